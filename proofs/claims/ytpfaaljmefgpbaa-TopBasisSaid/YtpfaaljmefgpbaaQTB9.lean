/- QTB, part 9: HRed. -/
import Derived.Test.YtpfaaljmefgpbaaQTB8

section
set_option linter.unusedVariables false
set_option linter.unusedSimpArgs false
namespace Go.Proofs.Ytpfaaljmefgpbaa.Hand
open Go.RowKit Go.Proofs.YtpfaaljmefgpbaaW.PrintWords Go.Proofs.YtpfaaljmefgpbaaW.PrintLast Go.Proofs.YtpfaaljmefgpbaaW.PrintMore
section
variable {P : Program} {ops : Array Oper} {Q : Exit → Act → World → Prop}
end
def pick (M : List (List Int)) (d k : Nat) : Option Nat := (List.range M.length).find? fun i => decide (d ≤ i) && (M.getD i []).getD k 0 != 0
def pivoted (M : List (List Int)) (d i k : Nat) : List (List Int) := ((M.set i (M.getD d [])).set d ((M.getD i []).map fun x => gm x (gi ((M.getD i []).getD k 0))))
def stepI (M : List (List Int)) (d i k : Nat) : List (List Int) := clr (pivoted M d i k) d k M.length
def colStep (S : List (List Int) × Nat) (k : Nat) : List (List Int) × Nat := match pick S.1 S.2 k with | none => S | some i => (stepI S.1 S.2 i k, S.2 + 1)
def redTo (L : List (List Int)) : Nat → List (List Int) × Nat | 0 => (L, 0) | k + 1 => colStep (redTo L k) k
def Fits (n : Nat) (M : List (List Int)) : Prop := ∀ r ∈ M, r.length = n ∧ areB r
theorem fits_set {n : Nat} {M : List (List Int)} (h : Fits n M) (i : Nat) {r : List Int} (hr : r.length = n ∧ areB r) : Fits n (M.set i r) := fun x hx => (List.mem_or_eq_of_mem_set hx).elim (h x) (fun e => e ▸ hr)
theorem addS_fits {n : Nat} {r s : List Int} (hr : r.length = n) (hs : s.length = n) (c : Int) : (addS r s c).length = n ∧ areB (addS r s c) := ⟨by simp [addS]; omega, fun x hx => by
  unfold addS at hx
  obtain ⟨i, hi, rfl⟩ := List.mem_iff_getElem.1 hx
  rw [List.getElem_zipWith]
  rw [show ∀ a b, xr a b = ofG (toG a ^^^ toG b) from fun a b => bits_xor a b]
  exact ofG_range _⟩
theorem getD_fits {n : Nat} {M : List (List Int)} (h : Fits n M) {i : Nat} (hi : i < M.length) : (M.getD i []).length = n ∧ areB (M.getD i []) := by
  rw [List.getD_eq_getElem?_getD, List.getElem?_eq_getElem hi]
  exact h _ (List.getElem_mem hi)
theorem clr_fits {n : Nat} {M : List (List Int)} (h : Fits n M) (d k i : Nat) (hd : d < M.length) : Fits n (clr M d k i) := fun r hr => by
  obtain ⟨j, hj, rfl⟩ := List.mem_map.1 hr
  have hj := List.mem_range.1 hj
  split
  · exact addS_fits (getD_fits h hj).1 (getD_fits h hd).1 _
  · exact getD_fits h hj
theorem pivoted_length (M : List (List Int)) (d i k : Nat) : (pivoted M d i k).length = M.length := by simp [pivoted]
theorem pivoted_fits {n : Nat} {M : List (List Int)} (h : Fits n M) {d i : Nat} (hd : d < M.length) (hi : i < M.length) (k : Nat) : Fits n (pivoted M d i k) :=
  fits_set (fits_set h i (getD_fits h hd)) d ⟨by rw [List.length_map]; exact (getD_fits h hi).1, fun x hx => by obtain ⟨y, _, rfl⟩ := List.mem_map.1 hx; exact ofG_range _⟩
theorem stepI_length (M : List (List Int)) (d i k : Nat) : (stepI M d i k).length = M.length := by unfold stepI; rw [clr_length, pivoted_length]
theorem pick_some {M : List (List Int)} {d k i : Nat} (h : pick M d k = some i) : d ≤ i ∧ i < M.length ∧ (M.getD i []).getD k 0 ≠ 0 := by
  unfold pick at h
  have h1 := List.mem_range.1 (List.mem_of_find?_eq_some h)
  have h2 := List.find?_some h
  simp at h2
  exact ⟨h2.1, h1, by simpa using h2.2⟩
theorem colStep_fits {n : Nat} {S : List (List Int) × Nat} (h : Fits n S.1) (k : Nat) : Fits n (colStep S k).1 ∧ (colStep S k).1.length = S.1.length := by
  unfold colStep
  cases e : pick S.1 S.2 k with
  | none => exact ⟨h, rfl⟩
  | some i =>
    obtain ⟨h1, h2, h3⟩ := pick_some e
    exact ⟨clr_fits (pivoted_fits h (by omega) h2 k) _ _ _ (by rw [pivoted_length]; omega), stepI_length _ _ _ _⟩
theorem redTo_fits {n : Nat} {L : List (List Int)} (h : Fits n L) (k : Nat) : Fits n (redTo L k).1 ∧ (redTo L k).1.length = L.length := by
  induction k with
  | zero => exact ⟨h, rfl⟩
  | succ k ih =>
    have := colStep_fits ih.1 k
    exact ⟨this.1, this.2.trans ih.2⟩
theorem redTo_le (L : List (List Int)) (k : Nat) : (redTo L k).2 ≤ (redTo L k).1.length := by
  induction k with
  | zero => exact Nat.zero_le _
  | succ k ih =>
    show (colStep (redTo L k) k).2 ≤ (colStep (redTo L k) k).1.length
    unfold colStep
    cases e : pick (redTo L k).1 (redTo L k).2 k with
    | none => exact ih
    | some i =>
      obtain ⟨h1, h2, h3⟩ := pick_some e
      dsimp only
      rw [stepI_length]; omega
theorem pick_none {M : List (List Int)} {d k : Nat} (h : ∀ j, d ≤ j → j < M.length → (M.getD j []).getD k 0 = 0) : pick M d k = none := by
  unfold pick
  rw [List.find?_eq_none]
  intro j hj
  have hj := List.mem_range.1 hj
  by_cases e : d ≤ j
  · rw [h j e hj]; simp
  · simp [e]
theorem pick_first {M : List (List Int)} {d k i : Nat} (h1 : d ≤ i) (h2 : i < M.length) (h3 : (M.getD i []).getD k 0 ≠ 0) (h : ∀ j, d ≤ j → j < i → (M.getD j []).getD k 0 = 0) : pick M d k = some i := by
  unfold pick
  rw [List.find?_eq_some_iff_getElem]
  refine ⟨by simpa [h1] using h3, i, by simpa using h2, by simp, fun j hj => ?_⟩
  simp only [List.getElem_range]
  by_cases e : d ≤ j
  · rw [h j e hj]; simp
  · simp [e]
set_option maxHeartbeats 8000000 in
set_option maxRecDepth 100000 in
theorem reduced_calls (w0 W : World) (B G cap : Nat) (L : List (List Int)) (n : Nat) (h : WorkIs w0 W B G cap L 0) (hL : Fits n L) (hn : n ≤ vN) (hLm : L.length < 1000000000) (cols : Nat) (hc : cols ≤ n) :
    Calls Try.prog 34 #[.pointer (some ⟨B, 0, none⟩), .int .i64 (cols : Int)] W fun e W' => e = .returned (.int .i64 ((redTo L cols).2 : Int)) ∧ WorkIs w0 W' B G cap (redTo L cols).1 (redTo L cols).2 := by
  have HW := Aside0.mk h
  have HL := Aside0.mk hL
  have Hn := Aside0.mk hn
  have Hc := Aside0.mk hc
  clear h hL
  unfold vN at hn
  go_enter Try.func34, Try.ntmps34
  go_wp2
  go_step3
  go_wp2
  go_step3
  go_wp2
  go_loopg [14] cols (fun kq v14 w' => ∃ k : Nat, v14 = .int .i64 (k : Int) ∧ Aside0 (kq + k = cols) ∧ Aside0 (WorkIs w0 w' B G cap (redTo L k).1 (redTo L k).2))
  case atStart => exact ⟨0, rfl, ⟨rfl⟩, HW⟩
  case round =>
    clear HW
    obtain ⟨k, rfl, HI, HW⟩ := hrel
    have hF := redTo_fits HL.out k
    have hdl := redTo_le L k
    have hkc : (k : Int) ≤ (cols : Int) := by have := HI.out; omega
    by_cases hk : k < cols
    · have hnext : redTo L (k + 1) = colStep (redTo L k) k := rfl
      have HX := Aside0.mk hnext
      clear hnext
      generalize redTo L k = S at *
      obtain ⟨M, d⟩ := S
      have HF := Aside0.mk hF
      clear hF
      simp only at HW HF HX
      have hb0 := HW.out.cell0
      have hb1 := HW.out.cell1
      have qk : decide ((k : Int) < (cols : Int)) = true := decide_eq_true (by omega)
      cases gk with
      | zero => exact absurd HI.out (by omega)
      | succ k1 =>
        have HD := Aside0.mk hdl
        clear hdl
        go_wp2
        clear hb1 qk
        have HM := Aside0.mk (HF.out.2)
        go_loop [7] (fun v7 => ∃ i : Nat, v7 = .int .i64 (i : Int) ∧ Aside0 (d ≤ i ∧ i ≤ M.length) ∧ Aside0 (∀ j, d ≤ j → j < i → (M.getD j []).getD k 0 = 0)) (fun v7 => M.length - (intOf v7).toNat)
        case atStart => exact ⟨d, rfl, ⟨Nat.le_refl _, HD.out⟩, ⟨fun j a b => by omega⟩⟩
        case round =>
          obtain ⟨i, rfl, Hi, HN⟩ := hrel
          have hi9 : (i : Int) ≤ 1000000000 := by have := Hi.out; have := HM.out; omega
          have hi8 : (0 : Int) ≤ (i : Int) := by omega
          by_cases hi : i < M.length
          · obtain ⟨Ai, ci, hi0, hi1, hiR⟩ := HW.out.row i hi
            have HR := Aside0.mk hiR
            clear hiR
            have hMi := HF.out.1 _ (List.getElem_mem hi)
            have pk := show (0 : Int) ≤ (k : Int) by omega
            have qk := show (k : Int) < (M[i].length : Int) by have := hMi.1; have := Hc.out; omega
            obtain ⟨adi, ei, hxi⟩ := Kd.at_int HR.out.reads (k : Int) pk qk
            cases ei
            rw [Int.toNat_natCast] at hxi
            have Hval := Aside0.mk (show (M.getD i []).getD k 0 = rd M[i] (k : Int) by simp [rd, hi])
            have HB1 := Aside0.mk (hMi.2 _ (rd_mem pk qk))
            have HMi := Aside0.mk hMi
            clear hMi
            have Hit := Aside0.mk hi
            have qk2 := eq_true (show k < M[i].length by omega)
            replace pk := eq_true pk
            replace qk := eq_true qk
            have qi := eq_true (show (i : Int) < (M.length : Int) by omega)
            have qi1 : decide ((i : Int) < (M.length : Int)) = true := decide_eq_true (by omega)
            have qi2 := eq_true hi
            replace hi8 := eq_true hi8
            by_cases z : rd M[i] (k : Int) = 0
            · have z1 : (rd M[i] (k : Int) == 0) = true := by simp [z]
              have Hz := Aside0.mk z
              clear z
              go_wp2
              go_round
              case rel => exact ⟨i + 1, by go_num, ⟨by have := Hi.out; have := Hit.out; omega⟩, ⟨fun j a b => by
                by_cases e : j = i
                · rw [e, Hval.out]; exact Hz.out
                · exact HN.out j a (by omega)⟩⟩
              case measure => simp [intOf]; have := Hit.out; omega
            · have z1 : (rd M[i] (k : Int) == 0) = false := by simpa using z
              have Hz := Aside0.mk z
              clear z
              have hdd : d < M.length := by have := Hi.out; omega
              obtain ⟨Ad, cd, hd0, hd1, hdR⟩ := HW.out.row d hdd
              have HRd := Aside0.mk hdR
              clear hdR
              have Hdd := Aside0.mk hdd
              have pd := eq_true (show (0 : Int) ≤ (d : Int) by omega)
              have qd := eq_true (show (d : Int) < (M.length : Int) by omega)
              have hb1 := HW.out.cell1
              go_wp2
              refine start_ (n := 34) (S := fun w' => w'.cell? ⟨B, 0, none⟩ = some (.slice (some ⟨G, 0, none⟩) M.length cap) ∧ w'.cell? ⟨B, 1, none⟩ = some (.int .i64 (d : Int)) ∧ w'.cell? ⟨G, d, none⟩ = some (.slice Ad M[d].length cd) ∧ w'.cell? ⟨G, i, none⟩ = some (.slice (some adi) M[i].length ci)) (ds := [31, 33]) #[false, false, false, false, false, false, false, false, false, false, false, false, false, false, false, false, false, false, false, false, false, false, false, false, false, false, false, false, false, false, false, false, false, false] (by kernel_rfl) rfl rfl ⟨(by simpa using HW.out.cell0), (by simpa using HW.out.cell1), (by simpa using hd0), (by simpa using hi0)⟩ (fun hHeld => ?_)
              have n0_ := Aside0.mk (HW.out.step (below_drew (Below.refl _ _)))
              have n1_ := Aside0.mk (HR.out.step (below_drew (Below.refl _ _)))
              have n2_ := Aside0.mk (HRd.out.step (below_drew (Below.refl _ _)))
              clear HW HR HRd
              have HW := n0_
              have HR := n1_
              have HRd := n2_
              clear n0_ n1_ n2_
              clear hi0 hi1 hd0 hd1 hb0 hb1 hxi
              generalize wr.drew = w5 at HW HR HRd hHeld ⊢
              refine pure_ (i := 0) (N := some 42) (v := ?_) (a' := ?_) #[true, false, false, false, false, false, false, false, false, false, false, false, false, false, false, false, false, false, false, false, false, false, false, false, false, false, false, false, false, false, false, false, false, false] rfl rfl (by kernel_rfl) (fun _ _ _ h => h) (Or.inl ⟨by rfl, ?_⟩) ?_ ?_
              rotate_left
              · intro w'
                go_simp
                with_reducible rfl
              rotate_left
              · simp only [Act.put, List.setIfInBounds_toArray, List.set_cons_zero, List.set_cons_succ, i64_w, i32_w]
                rfl
              refine pure_ (i := 1) (N := some 43) (v := ?_) (a' := ?_) #[true, true, false, false, false, false, false, false, false, false, false, false, false, false, false, false, false, false, false, false, false, false, false, false, false, false, false, false, false, false, false, false, false, false] rfl rfl (by kernel_rfl) (fun _ _ _ h => h) (Or.inl ⟨by rfl, ?_⟩) ?_ ?_
              rotate_left
              · intro w'
                go_simp
                with_reducible rfl
              rotate_left
              · simp only [Act.put, List.setIfInBounds_toArray, List.set_cons_zero, List.set_cons_succ, i64_w, i32_w]
                rfl
              refine pure_ (i := 2) (N := some 44) (v := ?_) (a' := ?_) #[true, true, true, false, false, false, false, false, false, false, false, false, false, false, false, false, false, false, false, false, false, false, false, false, false, false, false, false, false, false, false, false, false, false] rfl rfl (by kernel_rfl) (fun _ _ _ h => h) (Or.inl ⟨by rfl, ?_⟩) ?_ ?_
              rotate_left
              · intro w'
                go_simp
                with_reducible rfl
              rotate_left
              · simp only [Act.put, List.setIfInBounds_toArray, List.set_cons_zero, List.set_cons_succ, i64_w, i32_w]
                rfl
              refine pure_ (i := 4) (N := some 46) (v := ?_) (a' := ?_) #[true, true, true, false, true, false, false, false, false, false, false, false, false, false, false, false, false, false, false, false, false, false, false, false, false, false, false, false, false, false, false, false, false, false] rfl rfl (by kernel_rfl) (fun _ _ _ h => h) (Or.inl ⟨by rfl, ?_⟩) ?_ ?_
              rotate_left
              · intro w'
                go_simp
                with_reducible rfl
              rotate_left
              · simp only [Act.put, List.setIfInBounds_toArray, List.set_cons_zero, List.set_cons_succ, i64_w, i32_w]
                rfl
              refine pure_ (i := 5) (N := some 47) (v := ?_) (a' := ?_) #[true, true, true, false, true, true, false, false, false, false, false, false, false, false, false, false, false, false, false, false, false, false, false, false, false, false, false, false, false, false, false, false, false, false] rfl rfl (by kernel_rfl) (fun _ _ _ h => h) (Or.inl ⟨by rfl, ?_⟩) ?_ ?_
              rotate_left
              · intro w'
                go_simp
                with_reducible rfl
              rotate_left
              · simp only [Act.put, List.setIfInBounds_toArray, List.set_cons_zero, List.set_cons_succ, i64_w, i32_w]
                rfl
              refine pure_ (i := 6) (N := some 48) (v := ?_) (a' := ?_) #[true, true, true, false, true, true, true, false, false, false, false, false, false, false, false, false, false, false, false, false, false, false, false, false, false, false, false, false, false, false, false, false, false, false] rfl rfl (by kernel_rfl) (fun _ _ _ h => h) (Or.inl ⟨by rfl, ?_⟩) ?_ ?_
              rotate_left
              · intro w'
                go_simp
                with_reducible rfl
              rotate_left
              · simp only [Act.put, List.setIfInBounds_toArray, List.set_cons_zero, List.set_cons_succ, i64_w, i32_w]
                rfl
              refine pure_ (i := 7) (N := some 49) (v := ?_) (a' := ?_) #[true, true, true, false, true, true, true, true, false, false, false, false, false, false, false, false, false, false, false, false, false, false, false, false, false, false, false, false, false, false, false, false, false, false] rfl rfl (by kernel_rfl) (fun _ _ _ h => h) (Or.inl ⟨by rfl, ?_⟩) ?_ ?_
              rotate_left
              · intro w'
                go_simp
                with_reducible rfl
              rotate_left
              · simp only [Act.put, List.setIfInBounds_toArray, List.set_cons_zero, List.set_cons_succ, i64_w, i32_w]
                rfl
              refine pure_ (i := 9) (N := some 51) (v := ?_) (a' := ?_) #[true, true, true, false, true, true, true, true, false, true, false, false, false, false, false, false, false, false, false, false, false, false, false, false, false, false, false, false, false, false, false, false, false, false] rfl rfl (by kernel_rfl) (fun _ _ _ h => h) (Or.inl ⟨by rfl, ?_⟩) ?_ ?_
              rotate_left
              · intro w'
                go_simp
                with_reducible rfl
              rotate_left
              · simp only [Act.put, List.setIfInBounds_toArray, List.set_cons_zero, List.set_cons_succ, i64_w, i32_w]
                rfl
              refine pure_ (i := 10) (N := some 52) (v := ?_) (a' := ?_) #[true, true, true, false, true, true, true, true, false, true, true, false, false, false, false, false, false, false, false, false, false, false, false, false, false, false, false, false, false, false, false, false, false, false] rfl rfl (by kernel_rfl) (fun _ _ _ h => h) (Or.inl ⟨by rfl, ?_⟩) ?_ ?_
              rotate_left
              · intro w'
                go_simp
                with_reducible rfl
              rotate_left
              · simp only [Act.put, List.setIfInBounds_toArray, List.set_cons_zero, List.set_cons_succ, i64_w, i32_w]
                rfl
              refine pure_ (i := 11) (N := some 53) (v := ?_) (a' := ?_) #[true, true, true, false, true, true, true, true, false, true, true, true, false, false, false, false, false, false, false, false, false, false, false, false, false, false, false, false, false, false, false, false, false, false] rfl rfl (by kernel_rfl) (fun _ _ _ h => h) (Or.inl ⟨by rfl, ?_⟩) ?_ ?_
              rotate_left
              · intro w'
                go_simp
                with_reducible rfl
              rotate_left
              · simp only [Act.put, List.setIfInBounds_toArray, List.set_cons_zero, List.set_cons_succ, i64_w, i32_w]
                rfl
              refine pure_ (i := 13) (N := some 55) (v := ?_) (a' := ?_) #[true, true, true, false, true, true, true, true, false, true, true, true, false, true, false, false, false, false, false, false, false, false, false, false, false, false, false, false, false, false, false, false, false, false] rfl rfl (by kernel_rfl) (fun _ _ _ h => h) (Or.inl ⟨by rfl, ?_⟩) ?_ ?_
              rotate_left
              · intro w'
                go_simp
                with_reducible rfl
              rotate_left
              · simp only [Act.put, List.setIfInBounds_toArray, List.set_cons_zero, List.set_cons_succ, i64_w, i32_w]
                rfl
              refine pure_ (i := 14) (N := some 56) (v := ?_) (a' := ?_) #[true, true, true, false, true, true, true, true, false, true, true, true, false, true, true, false, false, false, false, false, false, false, false, false, false, false, false, false, false, false, false, false, false, false] rfl rfl (by kernel_rfl) (fun _ _ _ h => h) (Or.inl ⟨by rfl, ?_⟩) ?_ ?_
              rotate_left
              · intro w'
                go_simp
                with_reducible rfl
              rotate_left
              · simp only [Act.put, List.setIfInBounds_toArray, List.set_cons_zero, List.set_cons_succ, i64_w, i32_w]
                rfl
              refine pure_ (i := 15) (N := some 57) (v := ?_) (a' := ?_) #[true, true, true, false, true, true, true, true, false, true, true, true, false, true, true, true, false, false, false, false, false, false, false, false, false, false, false, false, false, false, false, false, false, false] rfl rfl (by kernel_rfl) (fun _ _ _ h => h) (Or.inl ⟨by rfl, ?_⟩) ?_ ?_
              rotate_left
              · intro w'
                go_simp
                with_reducible rfl
              rotate_left
              · simp only [Act.put, List.setIfInBounds_toArray, List.set_cons_zero, List.set_cons_succ, i64_w, i32_w]
                rfl
              refine pure_ (i := 17) (N := some 59) (v := ?_) (a' := ?_) #[true, true, true, false, true, true, true, true, false, true, true, true, false, true, true, true, false, true, false, false, false, false, false, false, false, false, false, false, false, false, false, false, false, false] rfl rfl (by kernel_rfl) (fun _ _ _ h => h) (Or.inl ⟨by rfl, ?_⟩) ?_ ?_
              rotate_left
              · intro w'
                go_simp
                with_reducible rfl
              rotate_left
              · simp only [Act.put, List.setIfInBounds_toArray, List.set_cons_zero, List.set_cons_succ, i64_w, i32_w]
                rfl
              refine pure_ (i := 18) (N := some 60) (v := ?_) (a' := ?_) #[true, true, true, false, true, true, true, true, false, true, true, true, false, true, true, true, false, true, true, false, false, false, false, false, false, false, false, false, false, false, false, false, false, false] rfl rfl (by kernel_rfl) (fun _ _ _ h => h) (Or.inl ⟨by rfl, ?_⟩) ?_ ?_
              rotate_left
              · intro w'
                go_simp
                with_reducible rfl
              rotate_left
              · simp only [Act.put, List.setIfInBounds_toArray, List.set_cons_zero, List.set_cons_succ, i64_w, i32_w]
                rfl
              refine pure_ (i := 19) (N := some 61) (v := ?_) (a' := ?_) #[true, true, true, false, true, true, true, true, false, true, true, true, false, true, true, true, false, true, true, true, false, false, false, false, false, false, false, false, false, false, false, false, false, false] rfl rfl (by kernel_rfl) (fun _ _ _ h => h) (Or.inl ⟨by rfl, ?_⟩) ?_ ?_
              rotate_left
              · intro w'
                go_simp
                with_reducible rfl
              rotate_left
              · simp only [Act.put, List.setIfInBounds_toArray, List.set_cons_zero, List.set_cons_succ, i64_w, i32_w]
                rfl
              refine pure_ (i := 23) (N := some 65) (v := ?_) (a' := ?_) #[true, true, true, false, true, true, true, true, false, true, true, true, false, true, true, true, false, true, true, true, false, false, false, true, false, false, false, false, false, false, false, false, false, false] rfl rfl (by kernel_rfl) (fun _ _ _ h => h) (Or.inl ⟨by rfl, ?_⟩) ?_ ?_
              rotate_left
              · intro w'
                go_simp
                with_reducible rfl
              rotate_left
              · simp only [Act.put, List.setIfInBounds_toArray, List.set_cons_zero, List.set_cons_succ, i64_w, i32_w]
                rfl
              refine pure_ (i := 24) (N := some 66) (v := ?_) (a' := ?_) #[true, true, true, false, true, true, true, true, false, true, true, true, false, true, true, true, false, true, true, true, false, false, false, true, true, false, false, false, false, false, false, false, false, false] rfl rfl (by kernel_rfl) (fun _ _ _ h => h) (Or.inl ⟨by rfl, ?_⟩) ?_ ?_
              rotate_left
              · intro w'
                go_simp
                with_reducible rfl
              rotate_left
              · simp only [Act.put, List.setIfInBounds_toArray, List.set_cons_zero, List.set_cons_succ, i64_w, i32_w]
                rfl
              refine pure_ (i := 25) (N := some 67) (v := ?_) (a' := ?_) #[true, true, true, false, true, true, true, true, false, true, true, true, false, true, true, true, false, true, true, true, false, false, false, true, true, true, false, false, false, false, false, false, false, false] rfl rfl (by kernel_rfl) (fun _ _ _ h => h) (Or.inl ⟨by rfl, ?_⟩) ?_ ?_
              rotate_left
              · intro w'
                go_simp
                with_reducible rfl
              rotate_left
              · simp only [Act.put, List.setIfInBounds_toArray, List.set_cons_zero, List.set_cons_succ, i64_w, i32_w]
                rfl
              refine pure_ (i := 27) (N := some 69) (v := ?_) (a' := ?_) #[true, true, true, false, true, true, true, true, false, true, true, true, false, true, true, true, false, true, true, true, false, false, false, true, true, true, false, true, false, false, false, false, false, false] rfl rfl (by kernel_rfl) (fun _ _ _ h => h) (Or.inl ⟨by rfl, ?_⟩) ?_ ?_
              rotate_left
              · intro w'
                go_simp
                with_reducible rfl
              rotate_left
              · simp only [Act.put, List.setIfInBounds_toArray, List.set_cons_zero, List.set_cons_succ, i64_w, i32_w]
                rfl
              refine take_ (i := 3) (N := some 45) (v := ?_) (a' := ?_) #[true, true, true, true, true, true, true, true, false, true, true, true, false, true, true, true, false, true, true, true, false, false, false, true, true, true, false, true, false, false, false, false, false, false] rfl rfl (by kernel_rfl) (fun _ _ _ h => h) (Or.inl ⟨by rfl, ?_⟩) hHeld ?_ ?_
              rotate_left
              · rintro w' ⟨s0, s1, s2, s3⟩
                go_simp
                with_reducible rfl
              rotate_left
              · simp only [Act.put, List.setIfInBounds_toArray, List.set_cons_zero, List.set_cons_succ, i64_w, i32_w]
                rfl
              refine take_ (i := 8) (N := some 50) (v := ?_) (a' := ?_) #[true, true, true, true, true, true, true, true, true, true, true, true, false, true, true, true, false, true, true, true, false, false, false, true, true, true, false, true, false, false, false, false, false, false] rfl rfl (by kernel_rfl) (fun _ _ _ h => h) (Or.inl ⟨by rfl, ?_⟩) hHeld ?_ ?_
              rotate_left
              · rintro w' ⟨s0, s1, s2, s3⟩
                go_simp
                with_reducible rfl
              rotate_left
              · simp only [Act.put, List.setIfInBounds_toArray, List.set_cons_zero, List.set_cons_succ, i64_w, i32_w]
                rfl
              refine take_ (i := 12) (N := some 54) (v := ?_) (a' := ?_) #[true, true, true, true, true, true, true, true, true, true, true, true, true, true, true, true, false, true, true, true, false, false, false, true, true, true, false, true, false, false, false, false, false, false] rfl rfl (by kernel_rfl) (fun _ _ _ h => h) (Or.inl ⟨by rfl, ?_⟩) hHeld ?_ ?_
              rotate_left
              · rintro w' ⟨s0, s1, s2, s3⟩
                go_simp
                with_reducible rfl
              rotate_left
              · simp only [Act.put, List.setIfInBounds_toArray, List.set_cons_zero, List.set_cons_succ, i64_w, i32_w]
                rfl
              refine take_ (i := 16) (N := some 58) (v := ?_) (a' := ?_) #[true, true, true, true, true, true, true, true, true, true, true, true, true, true, true, true, true, true, true, true, false, false, false, true, true, true, false, true, false, false, false, false, false, false] rfl rfl (by kernel_rfl) (fun _ _ _ h => h) (Or.inl ⟨by rfl, ?_⟩) hHeld ?_ ?_
              rotate_left
              · rintro w' ⟨s0, s1, s2, s3⟩
                go_simp
                with_reducible rfl
              rotate_left
              · simp only [Act.put, List.setIfInBounds_toArray, List.set_cons_zero, List.set_cons_succ, i64_w, i32_w]
                rfl
              refine take_ (i := 20) (N := some 62) (v := ?_) (a' := ?_) #[true, true, true, true, true, true, true, true, true, true, true, true, true, true, true, true, true, true, true, true, true, false, false, true, true, true, false, true, false, false, false, false, false, false] rfl rfl (by kernel_rfl) (fun _ _ _ h => h) (Or.inl ⟨by rfl, ?_⟩) hHeld ?_ ?_
              rotate_left
              · rintro w' ⟨s0, s1, s2, s3⟩
                go_simp
                with_reducible rfl
              rotate_left
              · simp only [Act.put, List.setIfInBounds_toArray, List.set_cons_zero, List.set_cons_succ, i64_w, i32_w]
                rfl
              refine pure_ (i := 21) (N := some 63) (v := ?_) (a' := ?_) #[true, true, true, true, true, true, true, true, true, true, true, true, true, true, true, true, true, true, true, true, true, true, false, true, true, true, false, true, false, false, false, false, false, false] rfl rfl (by kernel_rfl) (fun _ _ _ h => h) (Or.inl ⟨by rfl, ?_⟩) ?_ ?_
              rotate_left
              · intro w'
                go_simp
                with_reducible rfl
              rotate_left
              · simp only [Act.put, List.setIfInBounds_toArray, List.set_cons_zero, List.set_cons_succ, i64_w, i32_w]
                rfl
              refine take_ (i := 22) (N := some 64) (v := ?_) (a' := ?_) #[true, true, true, true, true, true, true, true, true, true, true, true, true, true, true, true, true, true, true, true, true, true, true, true, true, true, false, true, false, false, false, false, false, false] rfl rfl (by kernel_rfl) (fun _ _ _ h => h) (Or.inl ⟨by rfl, ?_⟩) hHeld ?_ ?_
              rotate_left
              · rintro w' ⟨s0, s1, s2, s3⟩
                go_simp
                with_reducible rfl
              rotate_left
              · simp only [Act.put, List.setIfInBounds_toArray, List.set_cons_zero, List.set_cons_succ, i64_w, i32_w]
                rfl
              refine take_ (i := 26) (N := some 68) (v := ?_) (a' := ?_) #[true, true, true, true, true, true, true, true, true, true, true, true, true, true, true, true, true, true, true, true, true, true, true, true, true, true, true, true, false, false, false, false, false, false] rfl rfl (by kernel_rfl) (fun _ _ _ h => h) (Or.inl ⟨by rfl, ?_⟩) hHeld ?_ ?_
              rotate_left
              · rintro w' ⟨s0, s1, s2, s3⟩
                go_simp
                with_reducible rfl
              rotate_left
              · simp only [Act.put, List.setIfInBounds_toArray, List.set_cons_zero, List.set_cons_succ, i64_w, i32_w]
                rfl
              refine pure_ (i := 28) (N := some 70) (v := ?_) (a' := ?_) #[true, true, true, true, true, true, true, true, true, true, true, true, true, true, true, true, true, true, true, true, true, true, true, true, true, true, true, true, true, false, false, false, false, false] rfl rfl (by kernel_rfl) (fun _ _ _ h => h) (Or.inl ⟨by rfl, ?_⟩) ?_ ?_
              rotate_left
              · intro w'
                go_simp
                with_reducible rfl
              rotate_left
              · simp only [Act.put, List.setIfInBounds_toArray, List.set_cons_zero, List.set_cons_succ, i64_w, i32_w]
                rfl
              refine take_ (i := 29) (N := some 71) (v := ?_) (a' := ?_) #[true, true, true, true, true, true, true, true, true, true, true, true, true, true, true, true, true, true, true, true, true, true, true, true, true, true, true, true, true, true, false, false, false, false] rfl rfl (by kernel_rfl) (fun _ _ _ h => h) (Or.inl ⟨by rfl, ?_⟩) hHeld ?_ ?_
              rotate_left
              · rintro w' ⟨s0, s1, s2, s3⟩
                go_simp
                with_reducible rfl
              rotate_left
              · simp only [Act.put, List.setIfInBounds_toArray, List.set_cons_zero, List.set_cons_succ, i64_w, i32_w]
                rfl
              refine pure_ (i := 30) (N := some 72) (v := ?_) (a' := ?_) #[true, true, true, true, true, true, true, true, true, true, true, true, true, true, true, true, true, true, true, true, true, true, true, true, true, true, true, true, true, true, true, false, false, false] rfl rfl (by kernel_rfl) (fun _ _ _ h => h) (Or.inl ⟨by rfl, ?_⟩) ?_ ?_
              rotate_left
              · intro w'
                go_simp
                with_reducible rfl
              rotate_left
              · simp only [Act.put, List.setIfInBounds_toArray, List.set_cons_zero, List.set_cons_succ, i64_w, i32_w]
                rfl
              obtain ⟨Az, cz, hz0, hz1, _⟩ := HW.out.row i Hit.out
              refine last_ (i := 31) (N := none) #[true, true, true, true, true, true, true, true, true, true, true, true, true, true, true, true, true, true, true, true, true, true, true, true, true, true, true, true, true, true, true, true, false, false] rfl rfl (by kernel_rfl) (by decide) (fun K hK => ?_)
              refine skip_ (w1 := ?_) (by rfl) rfl ?_ ?_
              rotate_left
              · go_simp
                rfl
              refine hK.out _ _ ?_
              clear hK K
              refine pure_ (i := 32) (N := some 73) (v := ?_) (a' := ?_) #[true, true, true, true, true, true, true, true, true, true, true, true, true, true, true, true, true, true, true, true, true, true, true, true, true, true, true, true, true, true, true, true, true, false] rfl rfl (by kernel_rfl) (fun _ _ _ h => h) (Or.inl ⟨by rfl, ?_⟩) ?_ ?_
              rotate_left
              · intro w'
                go_simp
                with_reducible rfl
              rotate_left
              · simp only [Act.put, List.setIfInBounds_toArray, List.set_cons_zero, List.set_cons_succ, i64_w, i32_w]
                rfl
              clear hz0 hz1 hHeld
              have HW2 := Aside0.mk (HW.out.put i Hit.out HRd.out)
              have HR2 := Aside0.mk (HR.out.setG i (.slice Ad M[d].length cd))
              generalize w5.setCell ⟨G, i, none⟩ (.slice Ad M[d].length cd) = w6 at HW2 HR2 ⊢
              obtain ⟨Ay, cy, hy0, hy1, _⟩ := HW2.out.row d (by rw [List.length_set]; exact Hdd.out)
              refine last_ (i := 33) (N := none) #[true, true, true, true, true, true, true, true, true, true, true, true, true, true, true, true, true, true, true, true, true, true, true, true, true, true, true, true, true, true, true, true, true, true] rfl rfl (by kernel_rfl) (by decide) (fun K hK => ?_)
              refine skip_ (w1 := ?_) (by rfl) rfl ?_ ?_
              rotate_left
              · go_simp
                rfl
              refine hK.out _ _ ?_
              clear hK K
              refine done_ (by kernel_rfl) ?_
              have HW3 := Aside0.mk (HW2.out.put d (by rw [List.length_set]; exact Hdd.out) HR2.out)
              clear HW2 HR2 HW HR HRd hy0 hy1
              generalize w6.setCell ⟨G, d, none⟩ (.slice (some adi) M[i].length ci) = w7 at HW3 ⊢
              obtain ⟨N, hN⟩ : ∃ N, N = (M.set i M[d]).set d M[i] := ⟨_, rfl⟩
              have hNl : N.length = M.length := by rw [hN]; simp
              have hNd : ∀ q : d < N.length, N[d] = M[i] := by subst hN; intro q; simp
              rw [← hN] at HW3
              have HNe := Aside0.mk hN
              have HNl := Aside0.mk hNl
              clear hN hNl
              have HInv := Aside0.mk (show field_Inv.f (rd M[i] (k : Int)) = some (gi (rd M[i] (k : Int)), 0) from by unfold field_Inv.f; rw [if_pos HB1.out, if_neg Hz.out])
              go_upto_region 12 with (go_at_call 26; refine (field_Inv.calls _ _ _ _ HInv.out).mono ?_; rintro e w8 ⟨rfl, hb⟩; have HW4 := Aside0.mk (HW3.out.step hb); clear hb)
              obtain ⟨Ap, cp, hp0, hp1, hpR⟩ := HW4.out.row d (by rw [HNl.out]; exact Hdd.out)
              rw [hNd] at hp0 hpR
              have HP := Aside0.mk hpR
              clear hpR hNd HW3
              have HSc := Aside0.mk (show vector_Scale.f M[i] (gi (rd M[i] (k : Int))) = some (M[i].map fun x => gm x (gi (rd M[i] (k : Int)))) from if_pos ⟨by have := HMi.out.1; have := Hn.out; omega, HMi.out.2, ofG_range _⟩)
              refine start_ (n := 22) (S := fun w' => w'.cell? ⟨B, 0, none⟩ = some (.slice (some ⟨G, 0, none⟩) M.length cap) ∧ w'.cell? ⟨B, 1, none⟩ = some (.int .i64 (d : Int)) ∧ w'.cell? ⟨G, d, none⟩ = some (.slice Ap M[i].length cp)) (ds := [21]) #[false, false, false, false, false, false, false, false, false, false, false, false, false, false, false, false, false, false, false, false, false, false] (by kernel_rfl) rfl rfl ⟨(by have := HW4.out.cell0; rw [HNl.out] at this; simpa using this), (by simpa using HW4.out.cell1), (by simpa using hp0)⟩ (fun hHeld => ?_)
              have n0_ := Aside0.mk (HW4.out.step (below_drew (Below.refl _ _)))
              have n1_ := Aside0.mk (HP.out.step (below_drew (Below.refl _ _)))
              clear HW4 HP hp0 hp1
              have HW4 := n0_
              have HP := n1_
              clear n0_ n1_
              generalize w8.drew = w9 at HW4 HP hHeld ⊢
              refine pure_ (i := 0) (N := some 79) (v := ?_) (a' := ?_) #[true, false, false, false, false, false, false, false, false, false, false, false, false, false, false, false, false, false, false, false, false, false] rfl rfl (by kernel_rfl) (fun _ _ _ h => h) (Or.inl ⟨by rfl, ?_⟩) ?_ ?_
              rotate_left
              · intro w'
                go_simp
                with_reducible rfl
              rotate_left
              · simp only [Act.put, List.setIfInBounds_toArray, List.set_cons_zero, List.set_cons_succ, i64_w, i32_w]
                rfl
              refine pure_ (i := 1) (N := some 80) (v := ?_) (a' := ?_) #[true, true, false, false, false, false, false, false, false, false, false, false, false, false, false, false, false, false, false, false, false, false] rfl rfl (by kernel_rfl) (fun _ _ _ h => h) (Or.inl ⟨by rfl, ?_⟩) ?_ ?_
              rotate_left
              · intro w'
                go_simp
                with_reducible rfl
              rotate_left
              · simp only [Act.put, List.setIfInBounds_toArray, List.set_cons_zero, List.set_cons_succ, i64_w, i32_w]
                rfl
              refine pure_ (i := 2) (N := some 81) (v := ?_) (a' := ?_) #[true, true, true, false, false, false, false, false, false, false, false, false, false, false, false, false, false, false, false, false, false, false] rfl rfl (by kernel_rfl) (fun _ _ _ h => h) (Or.inl ⟨by rfl, ?_⟩) ?_ ?_
              rotate_left
              · intro w'
                go_simp
                with_reducible rfl
              rotate_left
              · simp only [Act.put, List.setIfInBounds_toArray, List.set_cons_zero, List.set_cons_succ, i64_w, i32_w]
                rfl
              refine pure_ (i := 4) (N := some 83) (v := ?_) (a' := ?_) #[true, true, true, false, true, false, false, false, false, false, false, false, false, false, false, false, false, false, false, false, false, false] rfl rfl (by kernel_rfl) (fun _ _ _ h => h) (Or.inl ⟨by rfl, ?_⟩) ?_ ?_
              rotate_left
              · intro w'
                go_simp
                with_reducible rfl
              rotate_left
              · simp only [Act.put, List.setIfInBounds_toArray, List.set_cons_zero, List.set_cons_succ, i64_w, i32_w]
                rfl
              refine pure_ (i := 5) (N := some 84) (v := ?_) (a' := ?_) #[true, true, true, false, true, true, false, false, false, false, false, false, false, false, false, false, false, false, false, false, false, false] rfl rfl (by kernel_rfl) (fun _ _ _ h => h) (Or.inl ⟨by rfl, ?_⟩) ?_ ?_
              rotate_left
              · intro w'
                go_simp
                with_reducible rfl
              rotate_left
              · simp only [Act.put, List.setIfInBounds_toArray, List.set_cons_zero, List.set_cons_succ, i64_w, i32_w]
                rfl
              refine pure_ (i := 6) (N := some 85) (v := ?_) (a' := ?_) #[true, true, true, false, true, true, true, false, false, false, false, false, false, false, false, false, false, false, false, false, false, false] rfl rfl (by kernel_rfl) (fun _ _ _ h => h) (Or.inl ⟨by rfl, ?_⟩) ?_ ?_
              rotate_left
              · intro w'
                go_simp
                with_reducible rfl
              rotate_left
              · simp only [Act.put, List.setIfInBounds_toArray, List.set_cons_zero, List.set_cons_succ, i64_w, i32_w]
                rfl
              refine pure_ (i := 8) (N := some 87) (v := ?_) (a' := ?_) #[true, true, true, false, true, true, true, false, true, false, false, false, false, false, false, false, false, false, false, false, false, false] rfl rfl (by kernel_rfl) (fun _ _ _ h => h) (Or.inl ⟨by rfl, ?_⟩) ?_ ?_
              rotate_left
              · intro w'
                go_simp
                with_reducible rfl
              rotate_left
              · simp only [Act.put, List.setIfInBounds_toArray, List.set_cons_zero, List.set_cons_succ, i64_w, i32_w]
                rfl
              refine pure_ (i := 9) (N := some 88) (v := ?_) (a' := ?_) #[true, true, true, false, true, true, true, false, true, true, false, false, false, false, false, false, false, false, false, false, false, false] rfl rfl (by kernel_rfl) (fun _ _ _ h => h) (Or.inl ⟨by rfl, ?_⟩) ?_ ?_
              rotate_left
              · intro w'
                go_simp
                with_reducible rfl
              rotate_left
              · simp only [Act.put, List.setIfInBounds_toArray, List.set_cons_zero, List.set_cons_succ, i64_w, i32_w]
                rfl
              refine pure_ (i := 10) (N := some 89) (v := ?_) (a' := ?_) #[true, true, true, false, true, true, true, false, true, true, true, false, false, false, false, false, false, false, false, false, false, false] rfl rfl (by kernel_rfl) (fun _ _ _ h => h) (Or.inl ⟨by rfl, ?_⟩) ?_ ?_
              rotate_left
              · intro w'
                go_simp
                with_reducible rfl
              rotate_left
              · simp only [Act.put, List.setIfInBounds_toArray, List.set_cons_zero, List.set_cons_succ, i64_w, i32_w]
                rfl
              refine pure_ (i := 12) (N := some 91) (v := ?_) (a' := ?_) #[true, true, true, false, true, true, true, false, true, true, true, false, true, false, false, false, false, false, false, false, false, false] rfl rfl (by kernel_rfl) (fun _ _ _ h => h) (Or.inl ⟨by rfl, ?_⟩) ?_ ?_
              rotate_left
              · intro w'
                go_simp
                with_reducible rfl
              rotate_left
              · simp only [Act.put, List.setIfInBounds_toArray, List.set_cons_zero, List.set_cons_succ, i64_w, i32_w]
                rfl
              refine pure_ (i := 13) (N := some 92) (v := ?_) (a' := ?_) #[true, true, true, false, true, true, true, false, true, true, true, false, true, true, false, false, false, false, false, false, false, false] rfl rfl (by kernel_rfl) (fun _ _ _ h => h) (Or.inl ⟨by rfl, ?_⟩) ?_ ?_
              rotate_left
              · intro w'
                go_simp
                with_reducible rfl
              rotate_left
              · simp only [Act.put, List.setIfInBounds_toArray, List.set_cons_zero, List.set_cons_succ, i64_w, i32_w]
                rfl
              refine pure_ (i := 14) (N := some 93) (v := ?_) (a' := ?_) #[true, true, true, false, true, true, true, false, true, true, true, false, true, true, true, false, false, false, false, false, false, false] rfl rfl (by kernel_rfl) (fun _ _ _ h => h) (Or.inl ⟨by rfl, ?_⟩) ?_ ?_
              rotate_left
              · intro w'
                go_simp
                with_reducible rfl
              rotate_left
              · simp only [Act.put, List.setIfInBounds_toArray, List.set_cons_zero, List.set_cons_succ, i64_w, i32_w]
                rfl
              refine pure_ (i := 18) (N := some 97) (v := ?_) (a' := ?_) #[true, true, true, false, true, true, true, false, true, true, true, false, true, true, true, false, false, false, true, false, false, false] rfl rfl (by kernel_rfl) (fun _ _ _ h => h) (Or.inl ⟨by rfl, ?_⟩) ?_ ?_
              rotate_left
              · intro w'
                go_simp
                with_reducible rfl
              rotate_left
              · simp only [Act.put, List.setIfInBounds_toArray, List.set_cons_zero, List.set_cons_succ, i64_w, i32_w]
                rfl
              refine take_ (i := 3) (N := some 82) (v := ?_) (a' := ?_) #[true, true, true, true, true, true, true, false, true, true, true, false, true, true, true, false, false, false, true, false, false, false] rfl rfl (by kernel_rfl) (fun _ _ _ h => h) (Or.inl ⟨by rfl, ?_⟩) hHeld ?_ ?_
              rotate_left
              · rintro w' ⟨s0, s1, s2⟩
                go_simp
                with_reducible rfl
              rotate_left
              · simp only [Act.put, List.setIfInBounds_toArray, List.set_cons_zero, List.set_cons_succ, i64_w, i32_w]
                rfl
              refine take_ (i := 7) (N := some 86) (v := ?_) (a' := ?_) #[true, true, true, true, true, true, true, true, true, true, true, false, true, true, true, false, false, false, true, false, false, false] rfl rfl (by kernel_rfl) (fun _ _ _ h => h) (Or.inl ⟨by rfl, ?_⟩) hHeld ?_ ?_
              rotate_left
              · rintro w' ⟨s0, s1, s2⟩
                go_simp
                with_reducible rfl
              rotate_left
              · simp only [Act.put, List.setIfInBounds_toArray, List.set_cons_zero, List.set_cons_succ, i64_w, i32_w]
                rfl
              refine take_ (i := 11) (N := some 90) (v := ?_) (a' := ?_) #[true, true, true, true, true, true, true, true, true, true, true, true, true, true, true, false, false, false, true, false, false, false] rfl rfl (by kernel_rfl) (fun _ _ _ h => h) (Or.inl ⟨by rfl, ?_⟩) hHeld ?_ ?_
              rotate_left
              · rintro w' ⟨s0, s1, s2⟩
                go_simp
                with_reducible rfl
              rotate_left
              · simp only [Act.put, List.setIfInBounds_toArray, List.set_cons_zero, List.set_cons_succ, i64_w, i32_w]
                rfl
              refine take_ (i := 15) (N := some 94) (v := ?_) (a' := ?_) #[true, true, true, true, true, true, true, true, true, true, true, true, true, true, true, true, false, false, true, false, false, false] rfl rfl (by kernel_rfl) (fun _ _ _ h => h) (Or.inl ⟨by rfl, ?_⟩) hHeld ?_ ?_
              rotate_left
              · rintro w' ⟨s0, s1, s2⟩
                go_simp
                with_reducible rfl
              rotate_left
              · simp only [Act.put, List.setIfInBounds_toArray, List.set_cons_zero, List.set_cons_succ, i64_w, i32_w]
                rfl
              refine pure_ (i := 16) (N := some 95) (v := ?_) (a' := ?_) #[true, true, true, true, true, true, true, true, true, true, true, true, true, true, true, true, true, false, true, false, false, false] rfl rfl (by kernel_rfl) (fun _ _ _ h => h) (Or.inl ⟨by rfl, ?_⟩) ?_ ?_
              rotate_left
              · intro w'
                go_simp
                with_reducible rfl
              rotate_left
              · simp only [Act.put, List.setIfInBounds_toArray, List.set_cons_zero, List.set_cons_succ, i64_w, i32_w]
                rfl
              refine take_ (i := 17) (N := some 96) (v := ?_) (a' := ?_) #[true, true, true, true, true, true, true, true, true, true, true, true, true, true, true, true, true, true, true, false, false, false] rfl rfl (by kernel_rfl) (fun _ _ _ h => h) (Or.inl ⟨by rfl, ?_⟩) hHeld ?_ ?_
              rotate_left
              · rintro w' ⟨s0, s1, s2⟩
                go_simp
                with_reducible rfl
              rotate_left
              · simp only [Act.put, List.setIfInBounds_toArray, List.set_cons_zero, List.set_cons_succ, i64_w, i32_w]
                rfl
              refine one_ (i := 19) (N := some 98) #[true, true, true, true, true, true, true, true, true, true, true, true, true, true, true, true, true, true, true, true, false, false] rfl rfl (by kernel_rfl) (by decide) (fun K hK => ?_)
              refine goes_ Try.func27 (by kernel_rfl) rfl #[.slice Ap M[i].length cp, .int .u8 (gi (rd M[i] (k : Int)))] (by rfl) rfl rfl (by simp only [List.map_toArray, List.map_cons, List.map_nil]; rfl) ?_
              with_reducible refine (vector_Scale.calls Ap cp M[i] (gi (rd M[i] (k : Int))) (M[i].map fun x => gm x (gi (rd M[i] (k : Int)))) _ HP.out.reads HP.out.len HSc.out).mono ?_
              rintro e w10 ⟨v0, rfl, hR, hb⟩
              refine ⟨_, rfl, ?_⟩
              obtain ⟨An, cn, rfl, hN⟩ := RowAt.fresh HW4.out hR
              have HW5 := Aside0.mk (HW4.out.step hb)
              have HN5 := Aside0.mk hN
              obtain ⟨Az, cz, hz0, hz1, _⟩ := HW5.out.row d (by rw [HNl.out]; exact Hdd.out)
              clear hR hN HW4 HP
              refine hK.out _ _ ⟨(by have := HW5.out.cell0; rw [HNl.out] at this; exact this), HW5.out.cell1, ((hb.cell (World.block_lt_of_cell? _ _ hHeld.2.2)).trans hHeld.2.2)⟩ (fun hHeld => ?_)
              clear hK K
              refine norm_ (a' := ?_) ?_ ?_
              rotate_left
              · show Act.put _ (some 98) _ = _
                simp only [Act.put, List.setIfInBounds_toArray, List.set_cons_zero, List.set_cons_succ, i64_w, i32_w]
                rfl
              refine pure_ (i := 20) (N := some 99) (v := ?_) (a' := ?_) #[true, true, true, true, true, true, true, true, true, true, true, true, true, true, true, true, true, true, true, true, true, false] rfl rfl (by kernel_rfl) (fun _ _ _ h => h) (Or.inl ⟨by rfl, ?_⟩) ?_ ?_
              rotate_left
              · intro w'
                go_simp
                with_reducible rfl
              rotate_left
              · simp only [Act.put, List.setIfInBounds_toArray, List.set_cons_zero, List.set_cons_succ, i64_w, i32_w]
                rfl
              refine last_ (i := 21) (N := none) #[true, true, true, true, true, true, true, true, true, true, true, true, true, true, true, true, true, true, true, true, true, true] rfl rfl (by kernel_rfl) (by decide) (fun K hK => ?_)
              refine skip_ (w1 := ?_) (by rfl) rfl ?_ ?_
              rotate_left
              · go_simp
                rfl
              refine hK.out _ _ ?_
              clear hK K
              refine done_ (by kernel_rfl) ?_
              have HW6 := Aside0.mk (HW5.out.put d (by rw [HNl.out]; exact Hdd.out) HN5.out)
              have eP : N.set d (M[i].map fun x => gm x (gi (rd M[i] (k : Int)))) = pivoted M d i k := by
                rw [HNe.out]
                unfold pivoted
                rw [Hval.out, List.set_set]
                simp [Hit.out, Hdd.out]
              rw [eP] at HW6
              clear eP HW5 HN5 hz0 hz1 hHeld
              rw [List.length_map] at HW6
              generalize w10.setCell ⟨G, d, none⟩ (.slice An M[i].length cn) = w11 at HW6 ⊢
              have HC := Aside0.mk (clear_calls w0 w11 B G cap (pivoted M d i k) d k n HW6.out (by rw [pivoted_length]; exact Hdd.out) (pivoted_fits HF.out.1 Hdd.out Hit.out k) Hn.out (by have := HI.out; have := Hc.out; omega) (by rw [pivoted_length, HM.out]; exact hLm))
              go_wp2_with (go_at_call 55; refine HC.out.mono ?_; rintro e w12 ⟨rfl, hW⟩; have HW7 := Aside0.mk hW; clear hW)
              go_roundg k1
              case measure => omega
              case rel =>
                have e : pick M d k = some i := pick_first Hi.out.1 Hit.out (by rw [Hval.out]; exact Hz.out) HN.out
                have e2 : redTo L (k + 1) = (stepI M d i k, d + 1) := by rw [HX.out]; unfold colStep; rw [e]
                exact ⟨k + 1, by go_num, ⟨by have := HI.out; omega⟩, ⟨by rw [e2]; have := HW7.out; rw [pivoted_length] at this; exact this⟩⟩
          · have qi : decide ((i : Int) < (M.length : Int)) = false := decide_eq_false (by omega)
            go_wp2
            go_roundg k1
            case measure => omega
            case rel =>
              have e : pick M d k = none := pick_none fun j a b => HN.out j a (by have := Hi.out; omega)
              have e2 : redTo L (k + 1) = (M, d) := by rw [HX.out]; unfold colStep; rw [e]
              exact ⟨k + 1, by go_num, ⟨by have := HI.out; omega⟩, ⟨by rw [e2]; exact HW.out⟩⟩
    · have qk : decide ((k : Int) < (cols : Int)) = false := decide_eq_false (by omega)
      have hb1 := HW.out.cell1
      have e : k = cols := by have := HI.out; omega
      subst e
      clear hF hdl
      go_wp2
      rw [Exit.noGoto_ret]
      go_ret
      exact ⟨rfl, HW.out⟩
end Go.Proofs.Ytpfaaljmefgpbaa.Hand
end
