/- VectorCombines: its plain law. -/
import Derived.Test.YtpipmhofekfkgaaP4
import Derived.Test.YtpipmhofekfkgaaVecRef
namespace Go.Proofs.Ytpipmhofekfkgaa.Pure
open Go.Proofs.Ytpipmhofekfkgaa.Hand Go.Proofs.Ytpipmhofekfkgaa.LA Go.RowKit Go.Proofs.Ytpipmhofekfkgaa.P Go.Proofs.YtpipmhofekfkgaaW.PrintWords Go.Proofs.YtpipmhofekfkgaaW.PrintLast

theorem own_f {l : List Int} (h : l.length < 140737488355328) : braidworklaw02_own.f l = some l := by
  unfold braidworklaw02_own.f
  rw [if_pos (by simpa using h)]; rfl
/-- the last loop: the rows stand as they came -/
theorem vc_l2 (l : List (List Int)) (hl : l.length < 9223372036854775807) (d : Nat) : ∀ (i k : Nat), i + d = l.length → d + 5 < k → braidworklaw02_VectorCombines.l2 k l l true i = some true := by
  induction d with
  | zero =>
    intro i k hi hk
    obtain ⟨k, rfl⟩ : ∃ m, k = (m + 3) + 1 := ⟨k - 4, by omega⟩
    simp only [braidworklaw02_VectorCombines.l2]
    rw [if_neg (by omega), if_pos trivial, wakes_ok k]; rfl
  | succ d ih =>
    intro i k hi hk
    obtain ⟨k, rfl⟩ : ∃ m, k = m + 1 := ⟨k - 1, by omega⟩
    simp only [braidworklaw02_VectorCombines.l2]
    rw [if_pos (by omega), if_pos (by omega), if_pos (by omega), if_pos trivial, show wrap64 ((i : Int) + 1) = ((i + 1 : Nat) : Int) from by unfold wrap64; omega]
    exact ih (i + 1) k (by omega) (by omega)
theorem vc_l1 (l : List (List Int)) (hl : l.length < 9223372036854775807) (n : Nat) (hn : n < 9223372036854775807) (d : Nat) : ∀ (i k : Nat) (x : List Int), x.length = n → i + d = n → d + l.length + 7 < k → braidworklaw02_VectorCombines.l1 k l l x true i = some true := by
  induction d with
  | zero =>
    intro i k x hx hi hk
    obtain ⟨k, rfl⟩ : ∃ m, k = m + 1 := ⟨k - 1, by omega⟩
    simp only [braidworklaw02_VectorCombines.l1]
    rw [if_neg (by omega)]
    exact vc_l2 l hl l.length 0 k (by omega) (by omega)
  | succ d ih =>
    intro i k x hx hi hk
    obtain ⟨k, rfl⟩ : ∃ m, k = m + 1 := ⟨k - 1, by omega⟩
    simp only [braidworklaw02_VectorCombines.l1]
    rw [if_pos (by omega), if_pos (by omega), show wrap64 ((i : Int) + 1) = ((i + 1 : Nat) : Int) from by unfold wrap64; omega]
    exact ih (i + 1) k _ (by rw [List.length_set]; exact hx) (by omega) (by omega)
theorem vc_l0 (l : List (List Int)) (c : List Int) (n i0 : Int) (hr : ∀ r ∈ l, r.length < 140737488355328 ∧ areB r) (hB : areB c) (hl : l.length ≤ 60) (hc : c.length < 140737488355328) (d : Nat) :
    ∀ (i k : Nat), i + d = l.length → 600000000000000 + d < k → braidworklaw02_VectorCombines.l0 k l c n i0 (l.take i) i = some true := by
  induction d with
  | zero =>
    intro i k hi hk
    obtain ⟨k, rfl⟩ : ∃ m, k = m + 2 := ⟨k - 2, by omega⟩
    obtain ⟨a, g1, g2, g5⟩ := both_combine l c hr hB (by omega) (k + 1) (k + 1) (by omega) fun r h => by have := (hr r h).1; omega
    obtain ⟨u, g3, g4⟩ := both_unit n i0
    simp only [braidworklaw02_VectorCombines.l0]
    rw [if_neg (by omega), own_f hc, Option.bind_some, List.take_of_length_le (by omega), g1, Option.bind_some, g2, Option.bind_some, g3, Option.bind_some, g4, Option.bind_some, if_pos rfl, if_pos rfl, if_pos rfl, show (u.2 == u.2) = true from by simp]
    simp only [braidworklaw02_VectorCombines.j1]
    exact vc_l1 l (by omega) a.1.length (by omega) a.1.length 0 k a.1 rfl (by omega) (by omega)
  | succ d ih =>
    intro i k hi hk
    obtain ⟨k, rfl⟩ : ∃ m, k = m + 1 := ⟨k - 1, by omega⟩
    have hil : i < l.length := by omega
    have g := ih (i + 1) k (by omega) (by omega)
    rw [List.take_succ_eq_append_getElem hil] at g
    simp only [braidworklaw02_VectorCombines.l0]
    rw [if_pos (by omega), if_pos (by omega), rd_L1_nat l i hil, own_f (hr _ (List.getElem_mem hil)).1, Option.bind_some, if_pos (by rw [List.length_take]; omega), show wrap64 ((i : Int) + 1) = ((i + 1 : Nat) : Int) from by unfold wrap64; omega]
    exact g
theorem combines (l0 : List (List Int)) (l1 : List Int) (a2 a3 : Int) (h0 : ∀ y ∈ l0, y.length ≤ 140737488351232) (h1 : ∀ x ∈ l0, ∀ y ∈ x, (Lit.int .u8 y).wf = true) (h2 : l1.length ≤ 140737488351232) (h3 : ∀ y ∈ l1, (Lit.int .u8 y).wf = true) :
    braidworklaw02_VectorCombines.f 700000000000000 l0 l1 a2 a3 = some true := by
  have hm : 0 ≤ mn (l0.length : Int) 60 ∧ mn (l0.length : Int) 60 ≤ (l0.length : Int) ∧ mn (l0.length : Int) 60 ≤ 60 := by
    unfold mn; split <;> omega
  unfold braidworklaw02_VectorCombines.f
  rw [if_pos hm.1, if_pos hm.2.1]
  have hl : (l0.take (mn (l0.length : Int) 60).toNat).length ≤ 60 := by rw [List.length_take]; omega
  have hr : ∀ r ∈ l0.take (mn (l0.length : Int) 60).toNat, r.length < 140737488355328 ∧ areB r := fun r hr => by
    have hr := List.mem_of_mem_take hr
    have := h0 r hr
    exact ⟨by omega, areB_of_wf (h1 r hr)⟩
  exact vc_l0 _ l1 a2 a3 hr (areB_of_wf h3) hl (by omega) _ 0 700000000000000 (Nat.zero_add _) (by omega)
theorem combines_calls (A0 : Option Addr) (c0 : Nat) (l0 : List (List Int)) (A1 : Option Addr) (c1 : Nat) (l1 : List Int) (a2 a3 : Int) (w : World) (hr0 : Kd.C (Kd.slice 5 (Kd.int .u8)) w A0 l0.length l0) (hc0 : l0.length ≤ c0) (hr1 : Kd.C (Kd.int .u8) w A1 l1.length l1) (hc1 : l1.length ≤ c1)
    (h0 : ∀ y ∈ l0, y.length ≤ 140737488351232) (h1 : ∀ x ∈ l0, ∀ y ∈ x, (Lit.int .u8 y).wf = true) (h2 : l1.length ≤ 140737488351232) (h3 : ∀ y ∈ l1, (Lit.int .u8 y).wf = true) :
    Calls Try.prog 6 #[.slice A0 l0.length c0, .slice A1 l1.length c1, .int .i64 a2, .int .i64 a3] w fun e w' => e = .returned (.bool true) ∧ Below w.heap.size w w' :=
  braidworklaw02_VectorCombines.calls _ A0 c0 l0 A1 c1 l1 a2 a3 true w hr0 hc0 hr1 hc1 (combines l0 l1 a2 a3 h0 h1 h2 h3)
end Go.Proofs.Ytpipmhofekfkgaa.Pure
