/- The contract of matrix.Reduce. -/
import Derived.Test.YthgpmneplpdeiaaHCloneN
import Derived.Test.YthgpmneplpdeiaaHSize
import Derived.Test.YthgpmneplpdeiaaPK1
set_option linter.unusedVariables false
set_option linter.unusedSimpArgs false
namespace Go.Proofs.Ythgpmneplpdeiaa.Hand
open Go.RowKit Go.Proofs.YthgpmneplpdeiaaW.PrintWords Go.Proofs.YthgpmneplpdeiaaW.PrintLast Go.Proofs.YthgpmneplpdeiaaW.PrintMore
theorem copied_loop (l : List (List Int)) (hl : l.length < 1000000000) (hr : ∀ r ∈ l, r.length < 140737488355328) : ∀ (m j k : Nat) (x : List (List Int)), j + m = l.length → m < k → x.length = l.length → (∀ i, i < j → x[i]? = l[i]?) → PK.matrix_copied.l0 k l x (l.length : Int) (j : Int) = some l := by
  intro m
  induction m with
  | zero =>
    intro j k x h1 h2 h3 h4
    obtain ⟨k, rfl⟩ : ∃ m, k = m + 1 := ⟨k - 1, by omega⟩
    simp only [PK.matrix_copied.l0]
    rw [if_neg (by omega)]
    congr 1
    apply List.ext_getElem?
    intro i
    by_cases hi : i < j
    · exact h4 i hi
    · rw [List.getElem?_eq_none (by omega), List.getElem?_eq_none (by omega)]
  | succ m ih =>
    intro j k x h1 h2 h3 h4
    obtain ⟨k, rfl⟩ : ∃ m, k = m + 1 := ⟨k - 1, by omega⟩
    have hj : j < l.length := by omega
    have e1 : PK.rd_L1 l (j : Int) = l[j] := by unfold PK.rd_L1; rw [Int.toNat_natCast, List.getD_eq_getElem?_getD, List.getElem?_eq_getElem hj, Option.getD_some]
    have e2 : bytes_Clone.f l[j] = some l[j] := by unfold bytes_Clone.f; rw [if_pos (hr _ (List.getElem_mem hj))]
    simp only [PK.matrix_copied.l0]
    rw [if_pos (by omega), if_pos (by omega), if_pos (by omega), e1, e2, Option.bind_some, if_pos (by omega), Int.toNat_natCast, show wrap64 ((j : Int) + 1) = ((j + 1 : Nat) : Int) from by unfold wrap64; omega]
    refine ih (j + 1) k _ (by omega) (by omega) (by rw [List.length_set]; exact h3) (fun i hi => ?_)
    by_cases e : i = j
    · subst e
      rw [List.getElem?_set_self (by omega), List.getElem?_eq_getElem hj]
    · rw [List.getElem?_set_ne (by omega)]
      exact h4 i (by omega)
theorem copied_eq (l : List (List Int)) (hl : l.length < 1000000000) (hr : ∀ r ∈ l, r.length < 140737488355328) : PK.matrix_copied.f (l.length + 1) l = some l := by
  unfold PK.matrix_copied.f
  rw [if_pos (by omega), if_pos (by omega)]
  exact copied_loop l hl hr l.length 0 _ _ (by omega) (by omega) (by simp) (fun i hi => absurd hi (by omega))
theorem copied_calls (A0 : Option Addr) (c0 : Nat) (l0 : List (List Int)) (w : World) (hr0 : Kd.C rowK w A0 l0.length l0) (hc0 : l0.length ≤ c0) (hl : l0.length < 1000000000) (hr : ∀ r ∈ l0, r.length < 140737488355328) :
    Calls Try.prog 49 #[.slice A0 l0.length c0] w fun e w' => ∃ v0_ : Value, e = .returned v0_ ∧ Kd.S rowK 23 w' w.heap.size (fun _ => True) v0_ l0 ∧ Below w.heap.size w w' :=
  PK.matrix_copied.calls (l0.length + 1) A0 c0 l0 l0 w hr0 hc0 (copied_eq l0 hl hr)
theorem size_err (l : List (List Int)) (hl : l.length < 1000000000) (ha : (l.any fun x => (x.length : Int) != ((rdR l 0).length : Int)) = true) : matrix_Size.f l = some (0, 0, 21) := by
  unfold matrix_Size.f
  have h0 : l.length ≠ 0 := fun e => by rw [List.length_eq_zero_iff.1 e] at ha; cases ha
  rw [if_pos (by omega), if_neg h0, if_pos ha]
theorem size_ok (l : List (List Int)) (hl : l.length < 1000000000) (ha : (l.any fun x => (x.length : Int) != ((rdR l 0).length : Int)) = false) : matrix_Size.f l = some ((l.length : Int), ((rdR l 0).length : Int), 0) := by
  unfold matrix_Size.f
  rw [if_pos (by omega)]
  by_cases h0 : l.length = 0
  · rw [if_pos h0]
    have := List.length_eq_zero_iff.1 h0
    subst this
    rfl
  · rw [if_neg h0, if_neg (by rw [ha]; decide)]
theorem WorkIs.make {w0 w1 : World} {v : Value} {G cap : Nat} {L : List (List Int)} (hN : Kd.N rowK 23 w1 w0.heap.size (fun _ => True) (.slice (some ⟨G, 0, none⟩) L.length cap) L) (hb : Below w0.heap.size w0 w1) :
    WorkIs w0 (w1.alloc (.cells #[.slice (some ⟨G, 0, none⟩) L.length cap, .int .i64 0] 74)) w1.heap.size G cap L 0 := by
  refine ⟨by show (w1.heap.push _)[w1.heap.size]? = some _; simp, hb.size, ?_, below_alloc hb _⟩
  exact Kd.N_mono (Kd.N_alloc (Kd.N_elderB hN w1.heap.size (Nat.le_refl _)) _) (fun k hk => hk.2)
-- reduced on no column
set_option maxRecDepth 100000 in
theorem reduced_none (B : Nat) (v : Value) (d : Nat) (W : World) (h : W.heap[B]? = some (.cells #[v, .int .i64 (d : Int)] 74 (0, 0))) :
    Calls Try.prog 48 #[.pointer (some ⟨B, 0, none⟩), .int .i64 0] W fun e W' => e = .returned (.int .i64 (d : Int)) ∧ W' = W := by
  have hb1 : W.cell? ⟨B, 1, none⟩ = some (.int .i64 (d : Int)) := by simp [World.cell?, h]
  clear h
  go_enter Try.func48, Try.ntmps48
  go_wp2
  go_step3
  go_wp2
  go_step3
  go_wp2
  go_loopg [14] 0 (fun kq v w' => v = .int .i64 0 ∧ w' = W)
  case atStart => exact ⟨rfl, rfl⟩
  case round =>
    obtain ⟨rfl, rfl⟩ := hrel
    go_wp2
    rw [Exit.noGoto_ret]
    go_ret
    exact ⟨rfl, rfl⟩
def matrix_Reduce.f (l0 : List (List Int)) : Option (List (List Int) × Int) :=
  if l0.length < 1000000000 then
    if (l0.any fun x => (x.length : Int) != ((rdR l0 0).length : Int)) = true then some ([], 21)
    else if (rdR l0 0).length < 140737488355328 ∧ ∀ x ∈ l0, areB x then some ((redTo l0 (rdR l0 0).length).1.take (redTo l0 (rdR l0 0).length).2, 0) else none
  else none
set_option maxHeartbeats 4000000 in
set_option maxRecDepth 100000 in
theorem reduce_nil (A0 : Option Addr) (c0 : Nat) (w : World) (hr0 : Kd.C rowK w A0 ([] : List (List Int)).length []) (hc0 : ([] : List (List Int)).length ≤ c0) :
    Calls Try.prog 32 #[.slice A0 ([] : List (List Int)).length c0] w fun e w' => ∃ v0_ : Value, e = .returned (.tuple #[v0_, .int .i64 0]) ∧ Kd.S rowK 23 w' w.heap.size (fun _ => True) v0_ [] ∧ Below w.heap.size w w' := by
  have HS := Aside0.mk (matrix_Size.calls A0 c0 [] 0 0 0 w hr0 hc0 (by rfl))
  obtain ⟨info, hinfo, -⟩ := Option.map_eq_some_iff.1 infoRows
  have HR := Aside0.mk hr0
  have HC := Aside0.mk hc0
  have HCUT := Aside0.mk (fun (A : Option Addr) (cap : Nat) => cut_to (P := Try.prog) 22 23 .i64 Try.underlying22 hinfo A 0 cap 0 (by omega) (by omega) (Nat.zero_le _))
  clear hr0 hc0
  go_enter Try.func32, Try.ntmps32
  go_wp2_with (first
    | (go_at_call 46; refine HS.out.mono ?_; rintro e w1 ⟨rfl, hb1⟩; have HB1 := Aside0.mk hb1; clear hb1)
    | (go_at_call 47; refine (rowsClone_calls A0 c0 [] _ (Kd.C_below HR.out HB1.out) HC.out (by decide)).mono ?_; rintro e w2 ⟨v, rfl, hN, hb2⟩; obtain ⟨A, cap, rfl⟩ := Kd.N_slice hN; have HN := Aside0.mk (Kd.N_lower hN HB1.out.size); have HB2 := Aside0.mk (HB1.out.trans (hb2.mono HB1.out.size)); have hcut := HCUT.out A cap; clear hN hb2)
    | (go_at_call 48; refine (reduced_none w2.heap.size (.slice A ([] : List (List Int)).length cap) 0 _ (by show (w2.heap.push _)[w2.heap.size]? = some _; simp; done)).mono ?_; rintro e w3 ⟨rfl, rfl⟩)
    | (go_at_call 49; refine (copied_calls A cap [] _ (Kd.C_alloc (Kd.N_reads' HN.out).2.2 _) (Nat.zero_le _) (by decide) (fun r hr => by cases hr)).mono ?_; rintro e w4 ⟨v, rfl, hS, hb4⟩; have HO := Aside0.mk (Kd.S_lower hS (below_alloc HB2.out _).size); have HB4 := Aside0.mk ((below_alloc HB2.out _).trans (hb4.mono (below_alloc HB2.out _).size)); clear hS hb4))
  go_ret2
  exact ⟨_, rfl, HO.out, HB4.out⟩
set_option maxHeartbeats 4000000 in
set_option maxRecDepth 100000 in
theorem matrix_Reduce.calls (A0 : Option Addr) (c0 : Nat) (l0 : List (List Int)) (r1 : List (List Int)) (r2 : Int) (w : World) (hr0 : Kd.C (Kd.slice 5 (Kd.int .u8)) w A0 l0.length l0) (hc0 : l0.length ≤ c0) (h : matrix_Reduce.f l0 = some (r1, r2)) :
    Calls Try.prog 32 #[.slice A0 l0.length c0] w fun e w' => ∃ v0_ : Value, e = .returned (.tuple #[v0_, .int .i64 r2]) ∧ Kd.S (Kd.slice 5 (Kd.int .u8)) 23 w' w.heap.size (fun _ => True) v0_ r1 ∧ Below w.heap.size w w' := by
  by_cases hz : l0 = []
  · subst hz
    have e : matrix_Reduce.f [] = some ([], 0) := by rfl
    rw [e] at h
    simp only [Option.some.injEq, Prod.mk.injEq] at h
    obtain ⟨rfl, rfl⟩ := h
    exact reduce_nil A0 c0 w hr0 hc0
  have hz0 : l0.length ≠ 0 := fun e => hz (List.length_eq_zero_iff.1 e)
  clear hz
  unfold matrix_Reduce.f at h
  by_cases hl : l0.length < 1000000000
  · rw [if_pos hl] at h
    by_cases ha : (l0.any fun x => (x.length : Int) != ((rdR l0 0).length : Int)) = true
    · rw [if_pos ha] at h
      simp only [Option.some.injEq, Prod.mk.injEq] at h
      obtain ⟨rfl, rfl⟩ := h
      have HS := Aside0.mk (matrix_Size.calls A0 c0 l0 0 0 21 w hr0 hc0 (size_err l0 hl ha))
      clear ha hr0 hc0
      go_enter Try.func32, Try.ntmps32
      go_wp2_with (go_at_call 46; refine HS.out.mono ?_; rintro e w1 ⟨rfl, hb1⟩)
      go_ret2
      exact ⟨_, rfl, Kd.S_nil _ _ _ _ _, hb1⟩
    · rw [if_neg ha] at h
      by_cases hf : (rdR l0 0).length < 140737488355328 ∧ ∀ x ∈ l0, areB x
      · rw [if_pos hf] at h
        simp only [Option.some.injEq, Prod.mk.injEq] at h
        obtain ⟨rfl, rfl⟩ := h
        have ha' := Bool.eq_false_iff.2 ha
        have HS := Aside0.mk (matrix_Size.calls A0 c0 l0 _ _ 0 w hr0 hc0 (size_ok l0 hl ha'))
        have HF : Aside0 (Fits (rdR l0 0).length l0) := ⟨fun r hr => ⟨by have := List.any_eq_false.1 ha' r hr; simp at this; omega, hf.2 r hr⟩⟩
        have HR := Aside0.mk hr0
        have HC := Aside0.mk hc0
        have HL := Aside0.mk hl
        have Hn := Aside0.mk hf.1
        clear ha ha' hr0 hc0 hf hl
        generalize (rdR l0 0).length = n at *
        obtain ⟨info, hinfo, -⟩ := Option.map_eq_some_iff.1 infoRows
        have H0 := Aside0.mk hz0
        have HRD := Aside0.mk (fun W B G cap (hW : WorkIs w W B G cap l0 0) => reduced_calls w W B G cap l0 n hW HF.out (by unfold vN; have := Hn.out; omega) HL.out n (Nat.le_refl n))
        have HM := Aside0.mk (redTo_le l0 n)
        have HFI := Aside0.mk (redTo_fits HF.out n)
        clear hz0
        generalize redTo l0 n = S at *
        obtain ⟨M, d⟩ := S
        dsimp only at *
        have hcut := fun (G cap : Nat) (h : M.length ≤ cap) => cut_to (P := Try.prog) 22 23 .i64 Try.underlying22 hinfo (some ⟨G, 0, none⟩) M.length cap (d : Int) (by omega) (by have := HM.out; omega) h
        have HCUT := Aside0.mk hcut
        clear hcut
        have HCP := Aside0.mk (fun (G cap : Nat) (W : World) (hr : Kd.C rowK W (some ⟨G, 0, none⟩) (M.take d).length (M.take d)) (hc : (M.take d).length ≤ cap) => copied_calls (some ⟨G, 0, none⟩) cap (M.take d) W hr hc (by rw [List.length_take]; have := HFI.out.2; have := HL.out; omega) (fun r hr => by have := (HFI.out.1 r (List.mem_of_mem_take hr)).1; have := Hn.out; omega))
        have et : (M.take d).length = d := by rw [List.length_take]; have := HM.out; omega
        rw [et] at HCP
        have ET := Aside0.mk et
        clear et
        go_enter Try.func32, Try.ntmps32
        go_wp2_with (first
          | (go_at_call 46; refine HS.out.mono ?_; rintro e w1 ⟨rfl, hb1⟩; have HB1 := Aside0.mk hb1; clear hb1)
          | (go_at_call 47; refine (rowsClone_calls A0 c0 l0 _ (Kd.C_below HR.out HB1.out) HC.out (by have := HL.out; omega)).mono ?_; rintro e w2 ⟨v, rfl, hN, hb2⟩; obtain ⟨G, cap, rfl, hG1, hG2, -⟩ := Kd.N_form hN (by have := H0.out; omega); have HN := Aside0.mk (Kd.N_lower hN HB1.out.size); have HB2 := Aside0.mk (HB1.out.trans (hb2.mono HB1.out.size)); clear hN hb2 hG1 hG2)
          | (go_at_call 48; refine (HRD.out _ _ G cap (WorkIs.make (v := .slice none 0 0) HN.out HB2.out)).mono ?_; rintro e w3 ⟨rfl, hW⟩; have HW := Aside0.mk hW; have hc0 := hW.cell0; have hcut := HCUT.out G cap (Kd.N_reads' hW.rows).2.1; have HTK := Aside0.mk (Kd.N_take hW.rows HM.out); clear hW)
          | (go_at_call 49; refine (HCP.out G cap _ (by have := (Kd.N_reads' HTK.out).2.2; rw [ET.out] at this; exact this) (Kd.N_reads' HTK.out).2.1).mono ?_; rintro e w4 ⟨v, rfl, hS, hb4⟩; have HO := Aside0.mk (Kd.S_lower hS HW.out.below.size); have HB4 := Aside0.mk (HW.out.below.trans (hb4.mono HW.out.below.size)); clear hS hb4))
        go_ret2
        exact ⟨_, rfl, HO.out, HB4.out⟩
      · rw [if_neg hf] at h; cases h
  · rw [if_neg hl] at h; cases h
end Go.Proofs.Ythgpmneplpdeiaa.Hand
