/- QTB, part 29: HTopB HRow. -/
import Derived.Test.YtpfaaljmefgpbaaQTB6
import Derived.Test.YtpfaaljmefgpbaaQTB28
import Derived.ProofKit
import Derived.OpenShut
import Derived.ChangeOld
import Derived.SizedLaws
import Derived.Deep.Matrix
import Derived.Lib.SmallJoins

section
namespace Go.Proofs.Ytpfaaljmefgpbaa.Plain
open Go.Proofs.Ytpfaaljmefgpbaa.Hand Go.Proofs.Ytpfaaljmefgpbaa.GF Go.Proofs.Ytpfaaljmefgpbaa.LA Go.RowKit Go.Proofs.Ytpfaaljmefgpbaa.P Go.Proofs.YtpfaaljmefgpbaaW.PrintWords Go.Proofs.YtpfaaljmefgpbaaW.PrintLast
theorem size_six (a : Int) (h0 : 0 ≤ a) : ∃ n : Nat, 1 ≤ n ∧ n ≤ 6 ∧ wrap64 (1 + (wrap64 (Int.tmod a 6))) = (n : Int) := by
  refine ⟨1 + (a % 6).toNat, by omega, by omega, ?_⟩
  rw [Int.tmod_eq_emod_of_nonneg h0]
  unfold wrap64; omega
theorem nonneg_of_wf {a : Int} (h : (Lit.int .u8 a).wf = true) : isB a := by
  have := areB_of_wf (l := [a]) (fun x hx => by rw [List.mem_singleton.1 hx]; exact h)
  exact this a (List.mem_singleton.2 rfl)
theorem top_calls (A0 : Option Addr) (c0 : Nat) (l0 : List Int) (l1 : List Int) (A2 : Option Addr) (c2 : Nat) (l2 : List (List Int)) (A3 : Option Addr) (c3 : Nat) (l3 : List Int) (w : World) (hr0 : Kd.C (Kd.int .u8) w A0 l0.length l0) (hc0 : l0.length ≤ c0) (w0 : ∀ y ∈ l0, (Lit.int .u8 y).wf = true) (h1 : l1.length = 2) (w1 : ∀ y ∈ l1, (Lit.int .u8 y).wf = true)
    (hr2 : Kd.C rowK w A2 l2.length l2) (hc2 : l2.length ≤ c2) (w2 : ∀ x ∈ l2, ∀ y ∈ x, (Lit.int .u8 y).wf = true) (hr3 : Kd.C (Kd.int .u8) w A3 l3.length l3) (hc3 : l3.length ≤ c3) (w3 : ∀ y ∈ l3, (Lit.int .u8 y).wf = true) :
    Calls Try.prog 3 #[.slice A0 l0.length c0, .agg (l1.map (Value.int .u8)).toArray, .slice A2 l2.length c2, .slice A3 l3.length c3] w fun e w' => e = .returned (.bool true) ∧ Below w.heap.size w w' := by
  match l1, h1 with
  | [z0, z1], _ =>
    have b0 := nonneg_of_wf (w1 z0 (by simp))
    have b1 := nonneg_of_wf (w1 z1 (by simp))
    obtain ⟨g, g1, g6, hg⟩ := size_six z0 b0.1
    obtain ⟨s, s1, s6, hs⟩ := size_six z1 b1.1
    obtain ⟨sy, f1, f2, f3⟩ := lay_f l0 (areB_of_wf w0) g s g6 s6
    exact top_walk w A0 c0 l0 z0 z1 A2 c2 l2 A3 c3 l3 ⟨hr0⟩ ⟨hc0⟩ ⟨hr2⟩ ⟨hc2⟩ ⟨hr3⟩ ⟨hc3⟩ ⟨fun x hx => areB_of_wf (w2 x hx)⟩ ⟨areB_of_wf w3⟩ g s hg hs ⟨⟨g1, g6⟩, s1, s6⟩ sy ⟨f1⟩ ⟨f2⟩ ⟨f3⟩ _ ⟨rfl⟩
end Go.Proofs.Ytpfaaljmefgpbaa.Plain
end

section
set_option linter.unusedVariables false
set_option linter.unusedSimpArgs false
namespace Go.Proofs.Ytpfaaljmefgpbaa.Hand
open Go.RowKit Go.Proofs.YtpfaaljmefgpbaaW.PrintWords Go.ChangeShapes Go.WideShapes Go.ChangeAt Go.Deep
section
variable {H : Type} {enc : TypeId × Value → H} {P : Program} {W : World} {base : Nat}
theorem open_bytes {r : Reach} {B : Nat} {t e : TypeId} {v : Value} {d : DataW H} {p : List MemPlace} (ht : P.underlying t = some (.slice e)) (he : P.underlying e = some (.int .u8)) (ce : P.cellsOf e = 1)
    (hv : Value.okWide P W r B t v) (h : DataW.Trod enc P W base (fun _ => true) true t v d p) :
    ∃ (A : Option Addr) (c : Nat) (l : List Int), v = .slice A l.length c ∧ l.length ≤ c ∧ (Kd.int .u8).C W A l.length l ∧ (∀ x ∈ l, (Lit.int .u8 x).wf = true) ∧ ∃ es sp : List (DataW H), (d = .nil ∧ l = []) ∨ (d = .slice es sp ∧ es.length = l.length) := by
  obtain ⟨A, n, c, rfl⟩ := okWide_slice ht hv
  obtain ⟨fuel, hf⟩ := h
  rcases open_ints ht he ce hf with ⟨hcs, hx⟩ | ⟨x, l, c', zs, hcs, _, hl, hm, hz, hx, hcell, hwz⟩
  · simp [Value.cells] at hcs
    obtain ⟨rfl, rfl, rfl⟩ := hcs
    simp only [Prod.mk.injEq] at hx
    exact ⟨none, 0, [], rfl, Nat.le_refl _, Kd.C_nil _ _, by simp, [], [], .inl ⟨hx.1, rfl⟩⟩
  · simp [Value.cells] at hcs
    obtain ⟨rfl, rfl, rfl⟩ := hcs
    simp only [if_true] at hz
    simp only [Prod.mk.injEq] at hx
    have hlen : (zs.take n).length = n := by rw [List.length_take]; omega
    refine ⟨some x, c, zs.take n, by rw [hlen], by rw [hlen]; exact hl, ?_, fun y hy => hwz y (List.mem_of_mem_take hy), _, _, .inr ⟨hx.1, by simp [lits]⟩⟩
    rw [hlen]
    refine Kd.C_of_reads (d := (0 : Int)) (h1 := fun _ => rfl) ⟨hlen, by simp only [maxLen] at hm; omega, fun _ => ⟨x, rfl, fun j hj => ?_⟩⟩
    rw [hcell j (by omega)]
    congr 2
    rw [List.getD_eq_getElem?_getD, List.getD_eq_getElem?_getD, List.getElem?_take_of_lt hj]
theorem weights_all {P : Program} {t : TypeId} : ∀ {ds : List (DataW H)} {i : Nat} {D : DataW H}, ds[i]? = some D → ∀ n ∈ D.weights P t, n ∈ DataW.weightsAll P t ds
  | d0 :: ds, 0, D, h, n, hn => by
    simp only [List.getElem?_cons_zero, Option.some.injEq] at h
    subst h
    simp only [DataW.weightsAll, List.mem_append]
    exact .inl hn
  | d0 :: ds, i + 1, D, h, n, hn => by
    simp only [List.getElem?_cons_succ] at h
    simp only [DataW.weightsAll, List.mem_append]
    exact .inr (weights_all h n hn)
theorem sized_rows {P : Program} {ts : List TypeId} {ds : List (DataW H)} (h : (DataW.weightsEach P ts ds).all (· ≤ reachBytes) = true) {j : Nat} {t e q : TypeId} {es sp : List (DataW H)} (ht : ts[j]? = some t) (hd : ds[j]? = some (.slice es sp))
    (hu : P.underlying t = some (.slice e)) (hq : P.underlying e = some (.slice q)) (hb : P.bytesOf q = 1) {l : List (List Int)} (hl : ∀ (i : Nat) (y : List Int), l[i]? = some y → ∃ D, es[i]? = some D ∧ (y = [] ∨ ∃ f s', D = .slice f s' ∧ f.length = y.length)) : ∀ y ∈ l, y.length ≤ 140737488351232 := by
  intro y hy
  obtain ⟨i, hi, rfl⟩ := List.mem_iff_getElem.1 hy
  obtain ⟨D, hD, q0 | ⟨f, s', rfl, hf⟩⟩ := hl i _ (List.getElem?_eq_getElem hi)
  · rw [q0]; simp
  · have h1 : (f.length + s'.length) * P.bytesOf q ∈ (DataW.slice f s').weights P e := by simp [DataW.weights, hq]
    have h2 : (f.length + s'.length) * P.bytesOf q ∈ (DataW.slice es sp).weights P t := by
      simp only [DataW.weights, hu]
      exact List.mem_cons_of_mem _ (List.mem_append_left _ (weights_all hD _ h1))
    have h3 := List.all_eq_true.1 h _ (DataW.weights_mem_each ht hd _ h2)
    rw [hb] at h3
    have h4 : (f.length + s'.length) * 1 ≤ reachBytes := by simpa using h3
    simp only [reachBytes] at h4
    omega
theorem open_rows {r : Reach} {B : Nat} {t e q : TypeId} {v : Value} {d : DataW H} {p : List MemPlace} (ht : P.underlying t = some (.slice e)) (he : P.underlying e = some (.slice q)) (hq : P.underlying q = some (.int .u8)) (ce : P.cellsOf e = 1) (cq : P.cellsOf q = 1)
    (hv : Value.okWide P W r B t v) (h : DataW.Trod enc P W base (fun _ => true) true t v d p) :
    ∃ (A : Option Addr) (c : Nat) (l : List (List Int)), v = .slice A l.length c ∧ l.length ≤ c ∧ (Kd.slice q (Kd.int .u8)).C W A l.length l ∧ (∀ x ∈ l, ∀ y ∈ x, (Lit.int .u8 y).wf = true) ∧ (∀ x ∈ l, x.length ≤ 9223372036854775807) ∧
      ∃ es sp : List (DataW H), (d = .nil ∧ l = []) ∨ (d = .slice es sp ∧ es.length = l.length ∧ ∀ (j : Nat) (y : List Int), l[j]? = some y → ∃ D, es[j]? = some D ∧ (y = [] ∨ ∃ f s', D = .slice f s' ∧ f.length = y.length)) := by
  obtain ⟨A, n, c, rfl⟩ := okWide_slice ht hv
  obtain ⟨fuel, hf⟩ := h
  rcases open_int_rows ht he hq ce cq hf with ⟨hcs, hx⟩ | ⟨x, l, c', AA, L, C, Z, hcs, _, hl, hm, hx, hcell⟩
  · simp [Value.cells] at hcs
    obtain ⟨rfl, rfl, rfl⟩ := hcs
    simp only [Prod.mk.injEq] at hx
    exact ⟨none, 0, [], rfl, Nat.le_refl _, Kd.C_nil _ _, by simp, by simp, [], [], .inl ⟨hx.1, rfl⟩⟩
  · simp [Value.cells] at hcs
    obtain ⟨rfl, rfl, rfl⟩ := hcs
    simp only [Prod.mk.injEq] at hx
    let R : List (List Int) := (List.range n).map fun r => (Z r).take (L r)
    have hlen : R.length = n := by simp [R]
    have hrow : ∀ j, j < n → R[j]? = some ((Z j).take (L j)) := fun j hj => by simp [R, List.getElem?_map, List.getElem?_range hj]
    have hrl : ∀ j, j < n → ((Z j).take (L j)).length = L j := fun j hj => by
      obtain ⟨_, h1, _, h3, _⟩ := hcell j (by omega)
      rw [List.length_take]; omega
    have hes : ∀ (j : Nat) (y : List Int), R[j]? = some y → ∃ D : DataW H, ((List.range n).map fun r => intRow (H := H) .u8 (AA r) (L r) (Z r))[j]? = some D ∧ (y = [] ∨ ∃ f s', D = .slice f s' ∧ f.length = y.length) := fun j y hy => by
      have hj : j < n := by rw [← hlen]; exact (List.getElem?_eq_some_iff.1 hy).1
      rw [hrow j hj] at hy
      obtain rfl := Option.some.inj hy
      refine ⟨_, by rw [List.getElem?_map, List.getElem?_range hj]; rfl, ?_⟩
      obtain ⟨h0, h1, h2, h3, h4, h5, h6⟩ := hcell j (by omega)
      cases hA : AA j with
      | none =>
        left
        have := h5 hA
        exact List.length_eq_zero_iff.1 (by rw [hrl j hj]; omega)
      | some a' => right; exact ⟨lits .u8 ((Z j).take (L j)), lits .u8 ((Z j).drop (L j)), by simp only [hA, intRow], by simp [lits]⟩
    refine ⟨some x, c, R, by rw [hlen], by rw [hlen]; exact hl, ?_, fun y hy z hz => ?_, fun y hy => ?_, _, _, .inr ⟨hx.1, by simp [R], hes⟩⟩
    · rw [hlen]
      refine ⟨hlen, by simp only [maxLen] at hm; omega, fun _ => ⟨x, rfl, fun j y hy => ?_⟩⟩
      have hj : j < n := by rw [← hlen]; exact (List.getElem?_eq_some_iff.1 hy).1
      rw [hrow j hj] at hy
      obtain rfl := Option.some.inj hy
      obtain ⟨h0, h1, h2, h3, h4, h5, h6⟩ := hcell j (by omega)
      refine ⟨[.slice (AA j) (L j) (C j)], rfl, ⟨AA j, C j, by rw [hrl j hj], by rw [hrl j hj]; exact h1, ?_⟩, fun i u hu => ?_⟩
      · show (Kd.int .u8).C W (AA j) ((Z j).take (L j)).length ((Z j).take (L j))
        rw [hrl j hj]
        refine Kd.C_of_reads (d := (0 : Int)) (h1 := fun _ => rfl) ⟨hrl j hj, by simp only [maxLen] at h2; omega, fun hp => ?_⟩
        cases hA : AA j with
        | none => have := h5 hA; omega
        | some a' =>
          refine ⟨a', rfl, fun i hi => ?_⟩
          rw [(h6 a' hA).2 i (by omega)]
          congr 2
          rw [List.getD_eq_getElem?_getD, List.getD_eq_getElem?_getD, List.getElem?_take_of_lt hi]
      · have hi : i = 0 := by
          have := (List.getElem?_eq_some_iff.1 hu).1
          simpa using this
        subst hi
        simp only [List.getElem?_cons_zero, Option.some.injEq] at hu
        subst hu
        show W.cell? (x.add (j * 1 + 0)) = _
        rw [Nat.mul_one, Nat.add_zero]; exact h0
    · obtain ⟨j, hj, rfl⟩ := List.mem_map.1 hy
      have hj := List.mem_range.1 hj
      obtain ⟨_, _, _, _, h4, _⟩ := hcell j (by omega)
      exact h4 z (List.mem_of_mem_take hz)
    · obtain ⟨j, hj, rfl⟩ := List.mem_map.1 hy
      have hj := List.mem_range.1 hj
      obtain ⟨_, h1, h2, _, _⟩ := hcell j (by omega)
      rw [hrl j hj]; simp only [maxLen] at h2; omega
theorem open_array {r : Reach} {B : Nat} {t e : TypeId} {n : Nat} {v : Value} {d : DataW H} {p : List MemPlace} (ht : P.underlying t = some (.array n e)) (he : P.underlying e = some (.int .u8)) (ce : P.cellsOf e = 1) (ct : P.cellsOf t = n)
    (hv : Value.okWide P W r B t v) (h : DataW.Trod enc P W base (fun _ => true) true t v d p) :
    ∃ l : List Int, v = .agg (nums .u8 l).toArray ∧ l.length = n ∧ (∀ x ∈ l, (Lit.int .u8 x).wf = true) := by
  simp only [Value.okWide, ht] at hv
  obtain ⟨cs, rfl, hsz, _⟩ := hv
  rw [ct] at hsz
  obtain ⟨fuel, hf⟩ := h
  have hf' : DataW.trod enc P W base (fun _ => true) true fuel t cs.toList = some (d, p) := by simpa [Value.cells] using hf
  obtain ⟨xs, m, _, _, _, hxl, hx⟩ := DataW.trod_array ht hf'
  rw [ce] at hx
  have each : ∀ i, i < n → ∃ z : Int, cs.toList[i]? = some (.int .u8 z) ∧ (Lit.int .u8 z).wf = true := fun i hi => by
    have h1 := hx i hi
    rw [Nat.mul_one, List.getElem?_eq_getElem (by omega)] at h1
    obtain ⟨z, e1, _, e3⟩ := DataW.trod_int he h1
    refine ⟨z, ?_, e3⟩
    have h2 : ((cs.toList.drop i).take 1)[0]? = some (.int .u8 z) := by rw [e1]; rfl
    rw [List.getElem?_take_of_lt (by omega), List.getElem?_drop, Nat.add_zero] at h2
    exact h2
  obtain ⟨f, hfz⟩ := choose_lt each
  refine ⟨(List.range n).map f, ?_, by simp, fun x hx => ?_⟩
  · congr 1
    refine Array.ext_getElem? fun i => ?_
    by_cases hi : i < n
    · have := (hfz i hi).1
      rw [Array.getElem?_toList] at this
      rw [this]
      simp [nums, List.getElem?_map, List.getElem?_range hi]
    · rw [Array.getElem?_eq_none (by omega), Array.getElem?_eq_none (by simp [nums]; omega)]
  · obtain ⟨i, hi, rfl⟩ := List.mem_map.1 hx
    exact (hfz i (List.mem_range.1 hi)).2
end
end Go.Proofs.Ytpfaaljmefgpbaa.Hand
end
