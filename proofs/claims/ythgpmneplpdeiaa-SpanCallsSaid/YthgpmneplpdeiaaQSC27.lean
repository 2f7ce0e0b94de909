/- QSC, part 27: PQ HRefSum PlSpA PlSqA HRefMeet. -/
import Derived.Test.YthgpmneplpdeiaaQSC20
import Derived.Test.YthgpmneplpdeiaaQSC23
import Derived.Test.YthgpmneplpdeiaaQSC25
import Derived.Test.YthgpmneplpdeiaaQSC26

section
namespace Go.Proofs.Ythgpmneplpdeiaa.PQ
open Go.Proofs.Ythgpmneplpdeiaa.Hand Go.Proofs.Ythgpmneplpdeiaa.P Go.RowKit Go.Proofs.YthgpmneplpdeiaaW.PrintWords Go.Proofs.YthgpmneplpdeiaaW.PrintLast Go.Proofs.YthgpmneplpdeiaaW.PrintMore
attribute [local go_sem] max2_int min2_int max_two min_two max_three min_three max_four min_four   -- for this text's walks alone
set_option linter.unusedVariables false
set_option linter.unusedSimpArgs false
end Go.Proofs.Ythgpmneplpdeiaa.PQ
end

section
set_option linter.unusedVariables false
set_option linter.unusedSimpArgs false
namespace Go.Proofs.Ythgpmneplpdeiaa.Plain
open Go.Proofs.Ythgpmneplpdeiaa.Hand Go.Proofs.Ythgpmneplpdeiaa.GF Go.Proofs.Ythgpmneplpdeiaa.LA Go.RowKit Go.Proofs.Ythgpmneplpdeiaa.P Go.Proofs.Ythgpmneplpdeiaa.PQ Go.Proofs.YthgpmneplpdeiaaW.PrintWords Go.Proofs.YthgpmneplpdeiaaW.PrintLast Go.Proofs.YthgpmneplpdeiaaW.PrintMore
theorem both_eq {L M U : List (List Int)} (hU : U = L ++ M) (h : L.length + M.length < 1000000000) : braidworkref08_both.f L M = some U := by
  subst hU
  unfold braidworkref08_both.f
  rw [if_pos (by rw [List.length_nil]; omega), Option.bind_some, List.nil_append, if_pos (by omega)]
theorem both_calls (A0 : Option Addr) (c0 : Nat) (L : List (List Int)) (A1 : Option Addr) (c1 : Nat) (M U : List (List Int)) (w : World) (Hl : Kd.C rowK w A0 L.length L) (Cl : L.length ≤ c0) (Hm : Kd.C rowK w A1 M.length M) (Cm : M.length ≤ c1) (hU : U = L ++ M) (h : L.length + M.length < 1000000000) :
    Calls Try.prog 38 #[.slice A0 L.length c0, .slice A1 M.length c1] w fun e w' => ∃ (A : Option Addr) (c : Nat), e = .returned (.slice A U.length c) ∧ U.length ≤ c ∧ Kd.C rowK w' A U.length U ∧ Below w.heap.size w w' := by
  refine (braidworkref08_both.calls (fun k_ => k_ < w.heap.size) A0 c0 L (fun k_ => k_ < w.heap.size) A1 c1 M U w ⟨A0, c0, rfl, Cl, Kd.C_F (Kd.heap_slice _ (Kd.heap_int _)) Hl⟩ ⟨A1, c1, rfl, Cm, Kd.C_F (Kd.heap_slice _ (Kd.heap_int _)) Hm⟩ (both_eq hU h)).mono ?_
  rintro e w' ⟨v, rfl, ho, hb⟩
  obtain ⟨A, c, rfl⟩ := Kd.N_slice ho
  exact ⟨A, c, rfl, (Kd.N_reads' ho).2.1, (Kd.N_reads' ho).2.2, hb⟩
set_option maxHeartbeats 2000000 in
set_option maxRecDepth 100000 in
theorem refSum_calls (A0 : Option Addr) (c0 : Nat) (L : List (List Int)) (A1 : Option Addr) (c1 : Nat) (M U : List (List Int)) (w : World) (Hl : Aside0 (Kd.C rowK w A0 L.length L)) (Cl : Aside0 (L.length ≤ c0)) (Hm : Aside0 (Kd.C rowK w A1 M.length M)) (Cm : Aside0 (M.length ≤ c1)) (HU : Aside0 (U = L ++ M)) (h : Aside0 (L.length + M.length < 1000000000))
    (hB : Aside0 (∀ x ∈ U, areB x)) (hl : Aside0 (U.length < 1000)) (hn : Aside0 ((rdR U 0).length < 1000)) (R : List (List Int)) (e0 : Int) (hR : Aside0 (redF U = (R, e0))) :
    Calls Try.prog 21 #[.slice A0 L.length c0, .slice A1 M.length c1] w fun e w' => ∃ (A : Option Addr) (c : Nat), e = .returned (.tuple #[.slice A R.length c, .int .i64 e0]) ∧ R.length ≤ c ∧ Kd.C rowK w' A R.length R ∧ Below w.heap.size w w' := by
  go_enter Try.func21, Try.ntmps21
  go_wp2_with (first
    | (go_at_call 38; with_reducible refine (both_calls A0 c0 L A1 c1 M U _ Hl.out Cl.out Hm.out Cm.out HU.out h.out).mono ?_; rintro e w1 ⟨AU, cU, rfl, hcU, hCU, hb⟩; have HA := Aside0.mk hCU; have HC := Aside0.mk hcU; have HB := Aside0.mk hb; clear hCU hcU hb)
    | (go_at_call 40; with_reducible refine (refReduce_calls AU cU U _ HA.out HC.out hB.out hl.out hn.out R e0 hR.out).mono ?_; rintro e w2 ⟨AR, cR, rfl, hcR, hCR, hb⟩; have HA2 := Aside0.mk hCR; have HC2 := Aside0.mk hcR; replace HB := Aside0.mk (HB.out.trans (hb.mono HB.out.size)); clear hCR hcR hb))
  go_ret2
  exact ⟨AR, cR, rfl, HC2.out, HA2.out, HB.out⟩
end Go.Proofs.Ythgpmneplpdeiaa.Plain
namespace Go.Proofs.Ythgpmneplpdeiaa.Hand
open Go.Proofs.Ythgpmneplpdeiaa.Plain Go.Proofs.Ythgpmneplpdeiaa.GF Go.Proofs.Ythgpmneplpdeiaa.LA Go.RowKit Go.Proofs.Ythgpmneplpdeiaa.P Go.Proofs.YthgpmneplpdeiaaW.PrintWords Go.Proofs.YthgpmneplpdeiaaW.PrintLast
def braidworkref08_Sum.f (l0 l1 : List (List Int)) : Option (List (List Int) × Int) := if (∀ x ∈ l0 ++ l1, areB x) ∧ l0.length + l1.length < 1000 ∧ (rdR (l0 ++ l1) 0).length < 1000 then some (redF (l0 ++ l1)) else none
theorem braidworkref08_Sum.calls (A0 : Option Addr) (c0 : Nat) (l0 : List (List Int)) (A1 : Option Addr) (c1 : Nat) (l1 : List (List Int)) (r1 : List (List Int)) (r2 : Int) (w : World) (hr0 : Kd.C (Kd.slice 5 (Kd.int .u8)) w A0 l0.length l0) (hc0 : l0.length ≤ c0) (hr1 : Kd.C (Kd.slice 5 (Kd.int .u8)) w A1 l1.length l1) (hc1 : l1.length ≤ c1) (h : braidworkref08_Sum.f l0 l1 = some (r1, r2)) :
    Calls Try.prog 21 #[.slice A0 l0.length c0, .slice A1 l1.length c1] w fun e w' => ∃ v0_ : Value, e = .returned (.tuple #[v0_, .int .i64 r2]) ∧ Kd.V (Kd.slice 5 (Kd.int .u8)) 23 w' w.heap.size (fun k_ => k_ < w'.heap.size) v0_ r1 ∧ Below w.heap.size w w' := by
  unfold braidworkref08_Sum.f at h
  by_cases c : (∀ x ∈ l0 ++ l1, areB x) ∧ l0.length + l1.length < 1000 ∧ (rdR (l0 ++ l1) 0).length < 1000
  · rw [if_pos c] at h
    simp only [Option.some.injEq] at h
    refine (refSum_calls A0 c0 l0 A1 c1 l1 (l0 ++ l1) w ⟨hr0⟩ ⟨hc0⟩ ⟨hr1⟩ ⟨hc1⟩ ⟨rfl⟩ ⟨by omega⟩ ⟨c.1⟩ ⟨by rw [List.length_append]; exact c.2.1⟩ ⟨c.2.2⟩ r1 r2 ⟨h⟩).mono ?_
    rintro e w' ⟨A, cc, rfl, h1, h2, h3⟩
    exact ⟨_, rfl, Kd.V_lower ⟨A, cc, rfl, h1, Kd.C_F (Kd.heap_slice _ (Kd.heap_int _)) h2⟩ h3.size, h3⟩
  · rw [if_neg c] at h
    cases h
end Go.Proofs.Ythgpmneplpdeiaa.Hand
end

section
namespace Go.Proofs.Ythgpmneplpdeiaa.Plain
open Go.Proofs.Ythgpmneplpdeiaa.Hand Go.Proofs.Ythgpmneplpdeiaa.GF Go.Proofs.Ythgpmneplpdeiaa.LA Go.RowKit Go.Proofs.Ythgpmneplpdeiaa.P Go.Proofs.Ythgpmneplpdeiaa.PQ Go.Proofs.YthgpmneplpdeiaaW.PrintWords Go.Proofs.YthgpmneplpdeiaaW.PrintLast
theorem ite_some (x y : Bool) (a : Int) : (if x = true then some (y, a) else some (false, a)) = some (x && y, a) := by cases x <;> rfl
def Sml (A : List (List Int)) : Prop := A.length ≤ 10 ∧ ∀ r ∈ A, areB r ∧ r.length ≤ 10
theorem Sml.width {A : List (List Int)} (h : ∀ r ∈ A, areB r ∧ r.length ≤ 10) : (rdR A 0).length ≤ 10 := by
  cases A with
  | nil => simp [rdR]
  | cons a l => exact (h a (by simp)).2
theorem Sml.app {A B : List (List Int)} (hA : Sml A) (hB : Sml B) : ∀ r ∈ A ++ B, areB r ∧ r.length ≤ 10 := fun r hr => (List.mem_append.1 hr).elim (hA.2 r) (hB.2 r)
theorem mis_iff {l : List (List Int)} : mis l = false ↔ ∃ n, ∀ x ∈ l, x.length = n := by
  constructor
  · intro h
    exact ⟨(rdR l 0).length, fun x hx => by have := List.any_eq_false.1 h x hx; simp at this; omega⟩
  · rintro ⟨n, h⟩
    cases l with
    | nil => rfl
    | cons a t =>
      refine List.any_eq_false.2 fun x hx => ?_
      have h1 := h x hx
      have h2 : (rdR (a :: t) 0).length = n := h a (by simp)
      simp [h1, h2]
theorem mis_comm (a b : List (List Int)) : mis (a ++ b) = mis (b ++ a) := by
  have : mis (a ++ b) = false ↔ mis (b ++ a) = false := by
    rw [mis_iff, mis_iff]
    constructor <;> rintro ⟨n, h⟩ <;> exact ⟨n, fun x hx => h x (by simp only [List.mem_append] at hx ⊢; exact hx.symm)⟩
  cases h1 : mis (a ++ b) <;> cases h2 : mis (b ++ a) <;> simp_all
theorem rank_of {n : Nat} {L : List (List Int)} (hF : Fits n L) (hl : L.length < 1000) (hn : n < 1000) : braidworkref06_Rank.f L = some (((rk n (vecs L) : Nat) : Int), 0) := by
  have hw : redF L = (redRows L n, 0) := by
    unfold redF
    rw [if_neg (by rw [fits_misR hF]; simp)]
    cases L with
    | nil => rw [redRows_nilR, redRows_nilR]
    | cons a t => rw [show (rdR (a :: t) 0).length = n from (hF a (by simp)).1]
  have hwd : (rdR L 0).length < 1000 := by
    cases L with
    | nil => simp [rdR]
    | cons a t => rw [show (rdR (a :: t) 0).length = n from (hF a (by simp)).1]; exact hn
  unfold braidworkref06_Rank.f
  rw [if_pos ⟨fun x hx => (hF x hx).2, hl, hwd⟩, hw, redRows_rank hF]
theorem rank_mis {L : List (List Int)} (h : mis L = true) (hB : ∀ r ∈ L, areB r ∧ r.length ≤ 10) (hl : L.length < 1000) : braidworkref06_Rank.f L = some (0, 21) := by
  have hw : redF L = ([], 21) := by
    unfold redF
    rw [if_pos (show misR L = true from h)]
  have := Sml.width hB
  unfold braidworkref06_Rank.f
  rw [if_pos ⟨fun x hx => (hB x hx).1, hl, by omega⟩, hw]
  rfl
theorem rk_same_iff {n : Nat} {l m : List V} (hl : AllSupp n l) (hm : AllSupp n m) : rk n (l ++ m) = rk n l ↔ SpLe m l := by
  have hlm : AllSupp n (l ++ m) := fun x hx => (List.mem_append.1 hx).elim (hl x) (hm x)
  constructor
  · intro h
    refine SpLe.of_mem fun v hv => Classical.byContradiction fun c => ?_
    have h1 := rk_snoc hl (hm v hv) c
    have h2 : rk n (l ++ [v]) ≤ rk n (l ++ m) := rk_mono hlm (SpLe.of_sub fun x hx => by
      rcases List.mem_append.1 hx with q | q
      · exact List.mem_append_left _ q
      · rw [List.mem_singleton.1 q]; exact List.mem_append_right _ hv)
    omega
  · intro h
    exact rk_congr hl ((SpLe.append (SpEq.refl l).le h).eq (SpLe.left l m))
theorem vecs_app (a b : List (List Int)) : vecs (a ++ b) = vecs a ++ vecs b := List.map_append
theorem has_both {A : List (List Int)} {v : List Int} (hA : Sml A) (hv : areB v ∧ v.length ≤ 10) : ∃ b e, span_Has.f A v = some (b, e) ∧ braidworkref08_Has.f A v = some (b, e) := by
  have h1 := hA.1
  have hS : Sml [v] := ⟨by simp, fun r hr => by rw [List.mem_singleton.1 hr]; exact hv⟩
  have hAll := hA.app hS
  have hl : (A ++ [v]).length < 1000 := by simp; omega
  unfold span_Has.f braidworkref08_Has.f
  rw [if_pos ⟨by omega, by omega, hv.1, fun x hx => (hA.2 x hx).1⟩, both_eq (L := A) (M := [v]) rfl (by simp; omega), Option.bind_some]
  cases e : mis (A ++ [v]) with
  | true =>
    refine ⟨false, 21, rfl, ?_⟩
    rw [rank_mis e hAll hl, Option.bind_some]
    rfl
  | false =>
    have hF := fits_of e fun x hx => (hAll x hx).1
    have hn := Sml.width hAll
    generalize (rdR (A ++ [v]) 0).length = n at hF hn
    have fA := fits_left hF
    have fv := hF v (by simp)
    refine ⟨hasB A v, 0, rfl, ?_⟩
    rw [rank_of hF hl (by omega), Option.bind_some, if_pos rfl, rank_of fA (by omega) (by omega), Option.bind_some, vecs_app]
    congr 2
    rw [Bool.eq_iff_iff, hasB_iff fA fv, beq_iff_eq, Int.natCast_inj, rk_same_iff (vecs_supp fA) (vecs_supp (fits_right hF))]
    exact ⟨fun h => h _ (.mem (by simp [vecs])), fun h => SpLe.of_mem fun x hx => by
      have : x = vec v := by simpa [vecs] using hx
      rw [this]; exact h⟩
theorem contains_ref {A B : List (List Int)} (hA : Sml A) (hB : Sml B) : braidworkref08_Contains.f A B = some (if mis (A ++ B) = true then (false, 21) else (conB A B (wid A B), 0)) := by
  have h1 := hA.1
  have h2 := hB.1
  have hAll := hA.app hB
  have hl : (A ++ B).length < 1000 := by rw [List.length_append]; omega
  unfold braidworkref08_Contains.f
  rw [both_eq (L := A) (M := B) rfl (by omega), Option.bind_some]
  cases e : mis (A ++ B) with
  | true =>
    rw [rank_mis e hAll hl, Option.bind_some]
    rfl
  | false =>
    have hF := fits_of e fun x hx => (hAll x hx).1
    have hn := Sml.width hAll
    unfold wid
    generalize (rdR (A ++ B) 0).length = n at hF hn
    have fA := fits_left hF
    have fB := fits_right hF
    rw [rank_of hF hl (by omega), Option.bind_some, if_pos rfl, rank_of fA (by omega) (by omega), Option.bind_some, vecs_app, if_neg (by simp)]
    congr 2
    rw [Bool.eq_iff_iff, conB_iff fA fB, beq_iff_eq, Int.natCast_inj, rk_same_iff (vecs_supp fA) (vecs_supp fB)]
theorem contains_both {A B : List (List Int)} (hA : Sml A) (hB : Sml B) : span_Contains.f A B = some (if mis (A ++ B) = true then (false, 21) else (conB A B (wid A B), 0)) := by
  have h1 := hA.1
  have h2 := hB.1
  have hAll := hA.app hB
  cases e : mis (A ++ B) with
  | true =>
    have hw := Sml.width (hB.app hA)
    have ho : span_out.f B A = some (-1, 21) := by
      unfold span_out.f
      rw [if_pos (okB_iff.2 ⟨by omega, by omega, by unfold wid; omega, fun x hx => (hB.2 x hx).1, fun x hx => (hA.2 x hx).1⟩), if_pos (by rw [← mis_comm]; exact e)]
    unfold span_Contains.f
    rw [ho, Option.bind_some]
    rfl
  | false =>
    have hF := fits_of e fun x hx => (hAll x hx).1
    have hn := Sml.width hAll
    unfold wid
    generalize (rdR (A ++ B) 0).length = n at hF hn
    rw [Contains_f (n := n) ⟨fits_left hF, by omega⟩ ⟨fits_right hF, by omega⟩ (by omega), if_neg (by simp)]
theorem same_both {A B : List (List Int)} (hA : Sml A) (hB : Sml B) : ∃ b e, span_Same.f A B = some (b, e) ∧ braidworkref08_Same.f A B = some (b, e) := by
  have h2 := contains_ref hA hB
  have h3 := contains_ref hB hA
  have h4 := contains_both hA hB
  have h5 := contains_both hB hA
  generalize (if mis (A ++ B) = true then (false, (21 : Int)) else (conB A B (wid A B), 0)) = s at h2 h4
  generalize (if mis (B ++ A) = true then (false, (21 : Int)) else (conB B A (wid B A), 0)) = t at h3 h5
  refine ⟨s.1 && t.1, s.2, ?_, ?_⟩
  · unfold span_Same.f
    rw [h4, h5, Option.bind_some, Option.bind_some]
    exact ite_some _ _ _
  · unfold braidworkref08_Same.f
    rw [h2, h3, Option.bind_some, Option.bind_some]
    exact ite_some _ _ _
theorem sum_both {A B : List (List Int)} (hA : Sml A) (hB : Sml B) : ∃ R e, span_Sum.f A B = some (R, e) ∧ redF (A ++ B) = (R, e) ∧ R.length ≤ 20 ∧ ∀ x ∈ R, areB x ∧ x.length ≤ 10 := by
  have h1 := hA.1
  have h2 := hB.1
  have hAll := hA.app hB
  have hl : (A ++ B).length ≤ 20 := by rw [List.length_append]; omega
  unfold span_Sum.f
  rw [if_pos ⟨by omega, by omega⟩]
  cases e : mis (A ++ B) with
  | true =>
    refine ⟨[], 21, reduce_mis (by omega) e, by unfold redF; rw [if_pos (show misR (A ++ B) = true from e)], by simp, by simp⟩
  | false =>
    have hF := fits_of e fun x hx => (hAll x hx).1
    have hn := Sml.width hAll
    obtain ⟨p, -, -, q1, q2⟩ := redRows_spec hF
    refine ⟨_, 0, reduce_f hF (by omega) (by omega), by unfold redF; rw [if_neg (by rw [show misR (A ++ B) = false from e]; simp)], by omega, fun x hx => ⟨(q1 x hx).2, by have := (q1 x hx).1; omega⟩⟩
end Go.Proofs.Ythgpmneplpdeiaa.Plain
end

section
namespace Go.Proofs.Ythgpmneplpdeiaa.Plain
open Go.Proofs.Ythgpmneplpdeiaa.Hand Go.Proofs.Ythgpmneplpdeiaa.GF Go.Proofs.Ythgpmneplpdeiaa.LA Go.RowKit Go.Proofs.YthgpmneplpdeiaaW.PrintWords Go.Proofs.YthgpmneplpdeiaaW.PrintLast
theorem sq_next (k : Nat) (h : k ≤ 1000000) : wrap64 ((k : Int) + 1) = ((k + 1 : Nat) : Int) := by unfold wrap64; omega
theorem getD_setI (l : List Int) (i j : Nat) (v : Int) (hi : i < l.length) : (l.set i v).getD j 0 = if j = i then v else l.getD j 0 := by
  rw [List.getD_eq_getElem?_getD, List.getD_eq_getElem?_getD, List.getElem?_set]
  by_cases e : i = j
  · subst e; simp [hi]
  · rw [if_neg e, if_neg (fun q => e q.symm)]
theorem ext_getD {l m : List Int} (hl : l.length = m.length) (h : ∀ j, j < l.length → l.getD j 0 = m.getD j 0) : l = m := by
  refine List.ext_getElem hl fun j h1 h2 => ?_
  have := h j h1
  rwa [← getElem_getD l j h1, ← getElem_getD m j h2] at this
theorem sqRow_get (R : List (List Int)) (p : List Nat) (n k j : Nat) (hj : j < n) : (sqRow R p n k).getD j 0 = if j = k then 1 else if j ∈ p then (R.getD (p.idxOf j) []).getD k 0 else 0 := by
  unfold sqRow
  rw [List.getD_eq_getElem?_getD, List.getElem?_map, List.getElem?_range hj]
  rfl
section
variable {n : Nat} {R : List (List Int)} {p : List Nat}
theorem sq_l4 (hF : Fits n R) (h : Red (vecs R) p) (hn : n ≤ 1000) (x7 : List Int) (h7 : x7.length = n) (H1 : ∀ j, j ∈ p → x7.getD j 0 = ((p.idxOf j : Nat) : Int)) (H2 : ∀ j, j < n → j ∉ p → x7.getD j 0 = -1) (acc : List (List Int)) (hacc : acc.length ≤ 1000) (kk : Nat) (hk : kk < n) (hkp : kk ∉ p) (res : List (List Int)) (K : Nat)
    (hres : ∀ k', K ≤ k' → PT.braidworkref08_square.l3 k' (n : Int) R x7 (acc ++ [sqRow R p n kk]) ((kk + 1 : Nat) : Int) = some res) (d : Nat) : ∀ (x k : Nat) (x13 : List Int), x + d = n → K + d < k → x13.length = n → (∀ j, j < x → x13.getD j 0 = if j = kk then 1 else if j ∈ p then (R.getD (p.idxOf j) []).getD kk 0 else 0) → (∀ j, x ≤ j → j < n → x13.getD j 0 = if j = kk then 1 else 0) →
    PT.braidworkref08_square.l4 k (n : Int) R x7 acc (kk : Int) x13 (x : Int) = some res := by
  induction d with
  | zero =>
    intro x k x13 hx hkk h13 i1 i2
    obtain rfl : x = n := by omega
    cases k with
    | zero => omega
    | succ k =>
      have e13 : x13 = sqRow R p x kk := ext_getD (by rw [h13, (sqRow_fits hF p kk).1]) fun j hj => by rw [i1 j (by omega), sqRow_get R p x kk j (by omega)]
      unfold PT.braidworkref08_square.l4
      rw [if_neg (by omega), if_pos (by omega), e13, sq_next kk (by omega)]
      exact hres k (by omega)
  | succ d ih =>
    intro x k x13 hx hkk h13 i1 i2
    cases k with
    | zero => omega
    | succ k =>
      have hxn : x < n := by omega
      unfold PT.braidworkref08_square.l4
      rw [if_pos (by omega), if_pos (by omega), if_pos (by omega), sq_next x (by omega)]
      have hrd : rd x7 (x : Int) = x7.getD x 0 := by unfold rd; rw [Int.toNat_natCast]
      by_cases hp : x ∈ p
      · obtain ⟨g1, g2⟩ := idx_get hp
        have hlen : p.idxOf x < R.length := by rw [← vecs_length, h.len]; exact g1
        have hL : PT.rd_L1 R ((p.idxOf x : Nat) : Int) = R.getD (p.idxOf x) [] := by unfold PT.rd_L1; rw [Int.toNat_natCast]
        have hr := (getD_fits hF hlen).1
        have hxk : x ≠ kk := fun e => hkp (e ▸ hp)
        rw [hrd, H1 x hp, if_pos (by omega), if_pos (by omega), if_pos (by omega), if_pos (by omega), hL, if_pos (by rw [hr]; omega), if_pos (by omega), Int.toNat_natCast]
        refine ih (x + 1) k _ (by omega) (by omega) (by rw [List.length_set]; exact h13) (fun j hj => ?_) (fun j hj hjn => ?_)
        · rw [getD_setI _ _ _ _ (by omega)]
          by_cases e : j = x
          · subst e
            rw [if_pos rfl, if_neg hxk, if_pos hp]
            unfold rd
            rw [Int.toNat_natCast]
          · rw [if_neg e, i1 j (by omega)]
        · rw [getD_setI _ _ _ _ (by omega), if_neg (by omega), i2 j (by omega) hjn]
      · rw [hrd, H2 x hxn hp, if_neg (by decide)]
        refine ih (x + 1) k _ (by omega) (by omega) h13 (fun j hj => ?_) (fun j hj hjn => i2 j (by omega) hjn)
        by_cases e : j = x
        · subst e
          rw [i2 j (Nat.le_refl _) hxn, if_neg hp]
        · exact i1 j (by omega)
theorem sq_l3 (hF : Fits n R) (h : Red (vecs R) p) (hn : n ≤ 900) (x7 : List Int) (h7 : x7.length = n) (H1 : ∀ j, j ∈ p → x7.getD j 0 = ((p.idxOf j : Nat) : Int)) (H2 : ∀ j, j < n → j ∉ p → x7.getD j 0 = -1) (d : Nat) : ∀ (x k : Nat) (acc : List (List Int)), x + d = n → d * (n + 2) < k → acc.length ≤ x →
    PT.braidworkref08_square.l3 k (n : Int) R x7 acc (x : Int) = some (acc ++ ((List.range' x d).filter fun k => decide (k ∉ p)).map (sqRow R p n)) := by
  induction d with
  | zero =>
    intro x k acc hx hk _
    cases k with
    | zero => omega
    | succ k =>
      unfold PT.braidworkref08_square.l3
      rw [if_neg (by omega)]
      simp
  | succ d ih =>
    intro x k acc hx hk hacc
    rw [Nat.add_mul, Nat.one_mul] at hk
    cases k with
    | zero => omega
    | succ k =>
      have hxn : x < n := by omega
      unfold PT.braidworkref08_square.l3
      have hrd : rd x7 (x : Int) = x7.getD x 0 := by unfold rd; rw [Int.toNat_natCast]
      rw [if_pos (by omega), if_pos (by omega), if_pos (by omega), sq_next x (by omega), hrd, List.range'_succ]
      by_cases hp : x ∈ p
      · rw [H1 x hp, if_pos (by omega), List.filter_cons_of_neg (by simpa using hp)]
        exact ih (x + 1) k acc (by omega) (by omega) (by omega)
      · rw [H2 x hxn hp, if_neg (by decide), if_pos (by omega), if_pos (by rw [Int.toNat_natCast]; omega), Option.bind_some, Int.toNat_natCast, if_pos (by rw [List.length_replicate]; omega), Int.toNat_natCast, List.filter_cons_of_pos (by simpa using hp), List.map_cons]
        have e : acc ++ sqRow R p n x :: ((List.range' (x + 1) d).filter fun k => decide (k ∉ p)).map (sqRow R p n) = (acc ++ [sqRow R p n x]) ++ ((List.range' (x + 1) d).filter fun k => decide (k ∉ p)).map (sqRow R p n) := by simp
        rw [e]
        refine sq_l4 hF h (by omega) x7 h7 H1 H2 acc (by omega) x hxn hp _ (d * (n + 2) + 1) (fun k' hk' => ih (x + 1) k' _ (by omega) (by omega) (by simp; omega)) n 0 k _ (by omega) (by omega) (by rw [List.length_set, List.length_replicate]) (fun j hj => by omega) (fun j _ hjn => ?_)
        rw [getD_setI _ _ _ _ (by rw [List.length_replicate]; exact hxn)]
        by_cases e : j = x
        · rw [if_pos e, if_pos e]
        · rw [if_neg e, if_neg e, List.getD_eq_getElem?_getD, List.getElem?_replicate, if_pos hjn]; rfl
theorem sq_l2 (hF : Fits n R) (h : Red (vecs R) p) (hn : n ≤ 900) (x7 : List Int) (h7 : x7.length = n) (i : Nat) (hi : i < R.length) (res : List (List Int)) (K : Nat)
    (hres : ∀ k', K ≤ k' → PT.braidworkref08_square.l1 k' (n : Int) R (x7.set (p.getD i 0) (i : Int)) ((i + 1 : Nat) : Int) = some res) (hi9 : i ≤ 1000) (d : Nat) : ∀ (x k : Nat), x + d = p.getD i 0 → K + d < k →
    PT.braidworkref08_square.l2 k (n : Int) R x7 (i : Int) (x : Int) = some res := by
  obtain ⟨a1, -, a3⟩ := red_lead hF h hi
  have hr := (getD_fits hF hi).1
  have hL : PT.rd_L1 R (i : Int) = R.getD i [] := by unfold PT.rd_L1; rw [Int.toNat_natCast]
  have hrd : ∀ x : Nat, rd (R.getD i []) (x : Int) = (R.getD i []).getD x 0 := fun x => by unfold rd; rw [Int.toNat_natCast]
  induction d with
  | zero =>
    intro x k hx hk
    cases k with
    | zero => omega
    | succ k =>
      obtain rfl : x = p.getD i 0 := by omega
      unfold PT.braidworkref08_square.l2
      rw [if_pos (by omega), if_pos (by omega), if_pos (by omega), hL, if_pos (by rw [hr]; omega), hrd, a3 i hi, if_pos rfl, if_neg (by decide), if_pos (by omega), Int.toNat_natCast, sq_next i (by omega)]
      exact hres k (by omega)
  | succ d ih =>
    intro x k hx hk
    cases k with
    | zero => omega
    | succ k =>
      have hz : (R.getD i []).getD x 0 = 0 := by
        refine byte_eq (getD_B hF i x) ⟨by decide, by decide⟩ ?_
        have h2 := h.low i (by rw [vecs_length]; exact hi) x (by omega)
        rw [vecs_row] at h2
        exact h2
      unfold PT.braidworkref08_square.l2
      rw [if_pos (by omega), if_pos (by omega), if_pos (by omega), hL, if_pos (by rw [hr]; omega), hrd, hz, if_pos rfl, sq_next x (by omega)]
      exact ih (x + 1) k (by omega) (by omega)
theorem sq_l1 (hF : Fits n R) (h : Red (vecs R) p) (hn : n ≤ 900) (hR : R.length ≤ n) (d : Nat) : ∀ (i k : Nat) (x7 : List Int), i + d = R.length → d * (n + 2) + n * (n + 2) + 1 < k → x7.length = n → (∀ t, t < i → x7.getD (p.getD t 0) 0 = (t : Int)) → (∀ j, j < n → (∀ t, t < i → p.getD t 0 ≠ j) → x7.getD j 0 = -1) →
    PT.braidworkref08_square.l1 k (n : Int) R x7 (i : Int) = some (sqL R p n) := by
  have hpl : p.length = R.length := by rw [← h.len, vecs_length]
  induction d with
  | zero =>
    intro i k x7 hi hk h7 i1 i2
    cases k with
    | zero => omega
    | succ k =>
      unfold PT.braidworkref08_square.l1
      rw [if_neg (by omega)]
      have e := sq_l3 hF h hn x7 h7 (fun j hj => by
        obtain ⟨g1, g2⟩ := idx_get hj
        have := i1 (p.idxOf j) (by omega)
        rwa [g2] at this) (fun j hj hjp => i2 j hj fun t ht e => hjp (by rw [← e]; exact pget_mem (by omega))) n 0 k [] (by omega) (by omega) (Nat.zero_le _)
      rw [show ((0 : Nat) : Int) = 0 from rfl, List.nil_append] at e
      rw [e]
      unfold sqL
      rw [List.range_eq_range']
  | succ d ih =>
    intro i k x7 hi hk h7 i1 i2
    rw [Nat.add_mul, Nat.one_mul] at hk
    cases k with
    | zero => omega
    | succ k =>
      have hiR : i < R.length := by omega
      obtain ⟨a1, -, a3⟩ := red_lead hF h hiR
      unfold PT.braidworkref08_square.l1
      rw [if_pos (by omega)]
      have e := sq_l2 hF h hn x7 h7 i hiR (sqL R p n) (d * (n + 2) + n * (n + 2) + 2) (fun k' hk' => ih (i + 1) k' _ (by omega) (by omega) (by rw [List.length_set]; exact h7) (fun t ht => ?_) (fun j hj hjt => ?_)) (by omega) (p.getD i 0) 0 k (by omega) (by omega)
      · exact e
      · rw [getD_setI _ _ _ _ (by omega)]
        by_cases q : t = i
        · subst q; rw [if_pos rfl]
        · rw [if_neg (fun e => q (pget_inj h.inc (by omega) (by omega) e)), i1 t (by omega)]
      · rw [getD_setI _ _ _ _ (by omega), if_neg (fun e => hjt i (by omega) e.symm)]
        exact i2 j hj fun t ht => hjt t (by omega)
theorem sq_l0 (hF : Fits n R) (h : Red (vecs R) p) (hn : n ≤ 900) (hR : R.length ≤ n) (d : Nat) : ∀ (i k : Nat) (x7 : List Int), i + d = n → d + R.length * (n + 2) + n * (n + 2) + 2 < k → x7.length = n → (∀ j, j < i → x7.getD j 0 = -1) →
    PT.braidworkref08_square.l0 k (n : Int) R x7 (i : Int) = some (sqL R p n) := by
  induction d with
  | zero =>
    intro i k x7 hi hk h7 i1
    cases k with
    | zero => omega
    | succ k =>
      unfold PT.braidworkref08_square.l0
      rw [if_neg (by omega)]
      exact sq_l1 hF h hn hR R.length 0 k x7 (by omega) (by omega) h7 (fun t ht => absurd ht (Nat.not_lt_zero _)) (fun j hj _ => i1 j (by omega))
  | succ d ih =>
    intro i k x7 hi hk h7 i1
    cases k with
    | zero => omega
    | succ k =>
      unfold PT.braidworkref08_square.l0
      rw [if_pos (by omega), if_pos (by omega), if_pos (by omega), Int.toNat_natCast, sq_next i (by omega)]
      refine ih (i + 1) k _ (by omega) (by omega) (by rw [List.length_set]; exact h7) (fun j hj => ?_)
      rw [getD_setI _ _ _ _ (by omega)]
      by_cases e : j = i
      · rw [if_pos e]
      · rw [if_neg e, i1 j (by omega)]
end
theorem square_f {n : Nat} {L : List (List Int)} (hL : Fits n L) (hl : L.length < 1000) (hn : n ≤ 10) {p : List Nat} (hp : Red (vecs (redRows L n)) p) : PT.braidworkref08_square.f 2000 L (n : Int) = some (sqL (redRows L n) p n) := by
  obtain ⟨-, -, -, r3, -⟩ := redRows_spec hL
  have hlen : (redRows L n).length ≤ n := by rw [redRows_rank hL]; exact rk_le_cols (vecs_supp hL)
  have hw : redF L = (redRows L n, 0) := by
    unfold redF
    rw [if_neg (by rw [fits_misR hL]; simp)]
    cases L with
    | nil => rw [redRows_nilR, redRows_nilR]
    | cons a t => rw [show (rdR (a :: t) 0).length = n from (hL a (by simp)).1]
  have hwd : (rdR L 0).length < 1000 := by
    cases L with
    | nil => simp [rdR]
    | cons a t => rw [show (rdR (a :: t) 0).length = n from (hL a (by simp)).1]; omega
  unfold PT.braidworkref08_square.f braidworkref06_Reduce.f
  rw [if_pos ⟨fun x hx => (hL x hx).2, hl, hwd⟩, Option.bind_some, if_pos (by omega), if_pos (by omega), hw, Int.toNat_natCast]
  have h1 : (redRows L n).length * (n + 2) ≤ 10 * 12 := Nat.mul_le_mul (by omega) (by omega)
  have h2 : n * (n + 2) ≤ 10 * 12 := Nat.mul_le_mul (by omega) (by omega)
  exact sq_l0 r3 hp (by omega) hlen n 0 2000 _ (by omega) (by omega) (by rw [List.length_replicate]) (fun j hj => by omega)
end Go.Proofs.Ythgpmneplpdeiaa.Plain
end

section
set_option linter.unusedVariables false
set_option linter.unusedSimpArgs false
namespace Go.Proofs.Ythgpmneplpdeiaa.Plain
open Go.Proofs.Ythgpmneplpdeiaa.Hand Go.Proofs.Ythgpmneplpdeiaa.GF Go.Proofs.Ythgpmneplpdeiaa.LA Go.RowKit Go.Proofs.Ythgpmneplpdeiaa.P Go.Proofs.YthgpmneplpdeiaaW.PrintWords Go.Proofs.YthgpmneplpdeiaaW.PrintLast Go.Proofs.YthgpmneplpdeiaaW.PrintMore
set_option maxHeartbeats 2000000 in
set_option maxRecDepth 100000 in
theorem refMeet_err (A0 : Option Addr) (c0 : Nat) (L : List (List Int)) (A1 : Option Addr) (c1 : Nat) (M : List (List Int)) (w : World) (Hl : Aside0 (Kd.C rowK w A0 L.length L)) (Cl : Aside0 (L.length ≤ c0)) (Hm : Aside0 (Kd.C rowK w A1 M.length M)) (Cm : Aside0 (M.length ≤ c1)) (R0 : List (List Int)) (HS : Aside0 (braidworkref08_Sum.f L M = some (R0, 21))) :
    Calls Try.prog 23 #[.slice A0 L.length c0, .slice A1 M.length c1] w fun e w' => e = .returned (.tuple #[.slice none 0 0, .int .i64 21]) ∧ Below w.heap.size w w' := by
  go_enter Try.func23, Try.ntmps23
  go_wp2_with (go_at_call 21; with_reducible refine (braidworkref08_Sum.calls A0 c0 L A1 c1 M R0 21 _ Hl.out Cl.out Hm.out Cm.out HS.out).mono ?_; rintro e w1 ⟨v1, rfl, ho, hb⟩; have HB := Aside0.mk hb; clear ho hb)
  go_ret2
  exact ⟨rfl, HB.out⟩
set_option maxHeartbeats 2000000 in
set_option maxRecDepth 100000 in
theorem refMeet_nil (A0 : Option Addr) (c0 : Nat) (L : List (List Int)) (A1 : Option Addr) (c1 : Nat) (M : List (List Int)) (w : World) (Hl : Aside0 (Kd.C rowK w A0 L.length L)) (Cl : Aside0 (L.length ≤ c0)) (Hm : Aside0 (Kd.C rowK w A1 M.length M)) (Cm : Aside0 (M.length ≤ c1)) (R0 : List (List Int)) (HS : Aside0 (braidworkref08_Sum.f L M = some (R0, 0))) (h : L.length = 0 ∨ (L.length ≠ 0 ∧ M.length = 0)) :
    Calls Try.prog 23 #[.slice A0 L.length c0, .slice A1 M.length c1] w fun e w' => e = .returned (.tuple #[.slice none 0 0, .int .i64 0]) ∧ Below w.heap.size w w' := by
  rcases h with h | ⟨h, k⟩
  · have z1 : ((L.length : Int) == 0) = true := by simp [h]
    clear h
    go_enter Try.func23, Try.ntmps23
    go_wp2_with (go_at_call 21; with_reducible refine (braidworkref08_Sum.calls A0 c0 L A1 c1 M R0 0 _ Hl.out Cl.out Hm.out Cm.out HS.out).mono ?_; rintro e w1 ⟨v1, rfl, ho, hb⟩; have HB := Aside0.mk hb; clear ho hb)
    go_ret2
    exact ⟨rfl, HB.out⟩
  · have z1 : ((L.length : Int) == 0) = false := by simpa using h
    have z2 : ((M.length : Int) == 0) = true := by simp [k]
    clear h k
    go_enter Try.func23, Try.ntmps23
    go_wp2_with (go_at_call 21; with_reducible refine (braidworkref08_Sum.calls A0 c0 L A1 c1 M R0 0 _ Hl.out Cl.out Hm.out Cm.out HS.out).mono ?_; rintro e w1 ⟨v1, rfl, ho, hb⟩; have HB := Aside0.mk hb; clear ho hb)
    go_ret2
    exact ⟨rfl, HB.out⟩
set_option maxHeartbeats 4000000 in
set_option maxRecDepth 100000 in
theorem refMeet_main (A0 : Option Addr) (c0 : Nat) (L : List (List Int)) (A1 : Option Addr) (c1 : Nat) (M : List (List Int)) (w : World) (Hl : Aside0 (Kd.C rowK w A0 L.length L)) (Cl : Aside0 (L.length ≤ c0)) (Hm : Aside0 (Kd.C rowK w A1 M.length M)) (Cm : Aside0 (M.length ≤ c1)) (R0 : List (List Int)) (HS : Aside0 (braidworkref08_Sum.f L M = some (R0, 0))) (hp : 0 < L.length) (hq : 0 < M.length)
    (n : Nat) (hn : (rdR L 0).length = n) (SA SB U SC R : List (List Int)) (FA : Aside0 (PT.braidworkref08_square.f 2000 L (n : Int) = some SA)) (FB : Aside0 (PT.braidworkref08_square.f 2000 M (n : Int) = some SB)) (HU : Aside0 (U = SA ++ SB ∧ SA.length + SB.length < 1000000000)) (FC : Aside0 (PT.braidworkref08_square.f 2000 U (n : Int) = some SC))
    (HB1 : Aside0 (∀ x ∈ SC, areB x)) (HB2 : Aside0 (SC.length < 1000)) (HB3 : Aside0 ((rdR SC 0).length < 1000)) (e0 : Int) (HR : Aside0 (redF SC = (R, e0))) :
    Calls Try.prog 23 #[.slice A0 L.length c0, .slice A1 M.length c1] w fun e w' => ∃ (A : Option Addr) (c : Nat), e = .returned (.tuple #[.slice A R.length c, .int .i64 0]) ∧ R.length ≤ c ∧ Kd.C rowK w' A R.length R ∧ Below w.heap.size w w' := by
  have z1 : ((L.length : Int) == 0) = false := beq_eq_false_iff_ne.2 (by omega)
  have z2 : ((M.length : Int) == 0) = false := beq_eq_false_iff_ne.2 (by omega)
  have p0 : (0 : Int) ≤ 0 := by decide
  have p1 : (0 : Int) < (L.length : Int) := by omega
  obtain ⟨ad, Ai, ci, e1, hx1, hl1, hi1⟩ := at_R Hl.out 0 p0 p1
  cases e1
  rw [hn] at hx1
  rw [show (0 : Int).toNat = 0 from rfl, Addr.add_zero'] at hx1
  have HX := Aside0.mk hx1
  have q1 := eq_true hp
  have q2 := eq_true p1
  clear hx1 hl1 hi1 hn p0 p1 hp hq
  go_enter Try.func23, Try.ntmps23
  go_upto_region 6 with (go_at_call 21; with_reducible refine (braidworkref08_Sum.calls (some ad) c0 L A1 c1 M R0 0 _ Hl.out Cl.out Hm.out Cm.out HS.out).mono ?_; rintro e w1 ⟨v1, rfl, ho, hb⟩; have HB := Aside0.mk hb; clear ho hb)
  have hx := (HB.out.cell (World.block_lt_of_cell? _ _ HX.out)).trans HX.out
  go_upto_region 7 with fail
  clear hx
  go_wp2_with (first
    | (go_at_call 43; with_reducible refine (PT.braidworkref08_square.calls 2000 (some ad) c0 L (n : Int) SA _ (Kd.C_below Hl.out HB.out) Cl.out FA.out).mono ?_; rintro e w2 ⟨v2, rfl, ho, hb⟩; obtain ⟨AS, cS, rfl⟩ := Kd.S_slice ho; have HSA := Aside0.mk (Kd.S_reads' ho).2.2; have CSA := Aside0.mk (Kd.S_reads' ho).2.1; replace HB := Aside0.mk (HB.out.trans (hb.mono HB.out.size)); clear ho hb)
    | (go_at_call 43; with_reducible refine (PT.braidworkref08_square.calls 2000 A1 c1 M (n : Int) SB _ (Kd.C_below Hm.out HB.out) Cm.out FB.out).mono ?_; rintro e w3 ⟨v3, rfl, ho, hb⟩; obtain ⟨AT, cT, rfl⟩ := Kd.S_slice ho; have HSB := Aside0.mk (Kd.S_reads' ho).2.2; have CSB := Aside0.mk (Kd.S_reads' ho).2.1; replace HSA := Aside0.mk (Kd.C_below HSA.out hb); replace HB := Aside0.mk (HB.out.trans (hb.mono HB.out.size)); clear ho hb)
    | (go_at_call 38; with_reducible refine (both_calls AS cS SA AT cT SB U _ HSA.out CSA.out HSB.out CSB.out HU.out.1 HU.out.2).mono ?_; rintro e w4 ⟨AU, cU, rfl, hcU, hCU, hb⟩; have HCU := Aside0.mk hCU; have CU := Aside0.mk hcU; replace HB := Aside0.mk (HB.out.trans (hb.mono HB.out.size)); clear hCU hcU hb)
    | (go_at_call 43; with_reducible refine (PT.braidworkref08_square.calls 2000 AU cU U (n : Int) SC _ HCU.out CU.out FC.out).mono ?_; rintro e w5 ⟨v5, rfl, ho, hb⟩; obtain ⟨AV, cV, rfl⟩ := Kd.S_slice ho; have HSC := Aside0.mk (Kd.S_reads' ho).2.2; have CSC := Aside0.mk (Kd.S_reads' ho).2.1; replace HB := Aside0.mk (HB.out.trans (hb.mono HB.out.size)); clear ho hb)
    | (go_at_call 40; with_reducible refine (refReduce_calls AV cV SC _ HSC.out CSC.out HB1.out HB2.out HB3.out R e0 HR.out).mono ?_; rintro e w6 ⟨AR, cR, rfl, hcR, hCR, hb⟩; have HCR := Aside0.mk hCR; have CR := Aside0.mk hcR; replace HB := Aside0.mk (HB.out.trans (hb.mono HB.out.size)); clear hCR hcR hb))
  go_ret2
  exact ⟨AR, cR, rfl, CR.out, HCR.out, HB.out⟩
end Go.Proofs.Ythgpmneplpdeiaa.Plain
end
