/- QSC, part 28: HCut8 HRefSame HSpClos PR0. -/
import Derived.Test.YthgpmneplpdeiaaQSC1
import Derived.Test.YthgpmneplpdeiaaQSC2
import Derived.Test.YthgpmneplpdeiaaQSC3
import Derived.Test.YthgpmneplpdeiaaQSC4
import Derived.Test.YthgpmneplpdeiaaQSC5
import Derived.Test.YthgpmneplpdeiaaQSC8
import Derived.Test.YthgpmneplpdeiaaQSC9
import Derived.Test.YthgpmneplpdeiaaQSC11
import Derived.Test.YthgpmneplpdeiaaQSC13
import Derived.Test.YthgpmneplpdeiaaQSC23
import Derived.Test.YthgpmneplpdeiaaQSC27
import Derived.Test.YthgpmneplpdeiaaProg
import Derived.Below
import Derived.Deep.Draws
import Derived.Deep.AppendLies
import Derived.Maps.AppendAt
import Derived.OwnWalk
import Derived.Laws.BytesArg
import Derived.Laws.MakeOwn
import Derived.Laws.OwnMore
import Derived.Deep.OwnRows
import Derived.Tactics
import Derived.Lib.ConvBytes
import Derived.Laws.Slices
import Derived.WalkKit
import Derived.KernelRfl
import Derived.RowKit3
import Derived.Deep.LoopGhost
import Derived.Deep.QuietTactic
import Derived.BigQuiet
import Derived.WideLaws
import Derived.Deep.DeepCutAuto
import Derived.Deep.CutBlock
import Derived.Deep.RegionHeld3
import Derived.Laws.Rows
import Derived.Lib.AppendStr
import Derived.ArgAppend
import Derived.Laws.IdiomCopy
import Derived.OrdersHeld
import Derived.Laws.BitsLemmas
import Derived.RowKit

section
set_option linter.unusedVariables false
set_option linter.unusedSimpArgs false
namespace Go.Proofs.Ythgpmneplpdeiaa.Plain
open Go.Proofs.Ythgpmneplpdeiaa.Hand Go.RowKit Go.Proofs.YthgpmneplpdeiaaW.PrintWords Go.Proofs.YthgpmneplpdeiaaW.PrintLast Go.Proofs.YthgpmneplpdeiaaW.PrintMore
attribute [local go_sem] max2_int min2_int max_two min_two
def cutL (L : List (List Int)) : List (List Int) := (L.take 10).map fun r => r.take 10
theorem cu_next (k : Nat) (h : k ≤ 1000000000) : wrap64 ((k : Int) + 1) = ((k + 1 : Nat) : Int) := by unfold wrap64; omega
theorem cu_len {i : Nat} (l : List (List Int)) (f : List Int → List Int) (z : List Int) (h : i ≤ 10) : (((l.take i).map f).length + [z].length) * 24 ≤ 140737488355328 := by
  rw [List.length_map, List.length_take, List.length_singleton]; omega
theorem cu_succ (f : List Int → List Int) (l : List (List Int)) (i : Nat) (h : i < l.length) : (l.take (i + 1)).map f = (l.take i).map f ++ [f (l.getD i [])] := by
  rw [List.take_add_one, List.getElem?_eq_getElem h, Option.toList_some, List.map_append, List.getD_eq_getElem?_getD, List.getElem?_eq_getElem h]; rfl
set_option maxHeartbeats 4000000 in
set_option maxRecDepth 100000 in
theorem cut_calls (A0 : Option Addr) (c0 : Nat) (L : List (List Int)) (w : World) (hr0 : Kd.C rowK w A0 L.length L) (hc0 : L.length ≤ c0) (hL : L.length ≤ 140737488355328) :
    Calls Try.prog 9 #[.slice A0 L.length c0] w fun e w' => ∃ v : Value, e = .returned v ∧ Kd.N rowK 23 w' w.heap.size (fun _ => True) v (cutL L) ∧ Below w.heap.size w w' := by
  have Hl := Aside0.mk hr0
  have Cl := Aside0.mk hc0
  clear hr0 hc0
  go_enter Try.func9, Try.ntmps9
  go_wp2
  go_loopg [4, 3] 10 (fun kq v4 v3 w' => ∃ i : Nat, v4 = .int .i64 (i : Int) ∧ Aside0 (kq + i = 10) ∧ Aside0 (i ≤ L.length) ∧ Aside0 (Kd.N rowK 23 w' w.heap.size (fun _ => True) v3 ((L.take i).map fun r => r.take 10)) ∧ Aside0 (Below w.heap.size w w'))
  case atStart => exact ⟨0, rfl, ⟨rfl⟩, ⟨Nat.zero_le _⟩, ⟨by rw [List.take_zero]; exact Kd.N_nil _ _ _ _ _⟩, ⟨Below.refl _ _⟩⟩
  case round =>
    obtain ⟨i, rfl, HI, HIL, HN, HW⟩ := hrel
    by_cases hi : i < L.length
    · have p0 : (0 : Int) ≤ (i : Int) := Int.natCast_nonneg _
      have p1 : (i : Int) < (L.length : Int) := Int.ofNat_lt.2 hi
      have q1 : decide ((i : Int) < (L.length : Int)) = true := decide_eq_true p1
      by_cases h12 : i < 10
      · have r1 : decide ((i : Int) < 10) = true := decide_eq_true (by omega)
        have r2 : ((i : Int) < 10) = True := eq_true (by omega)
        have r3 : (i < 10) = True := eq_true h12
        obtain ⟨ad, Ai, ci, e1, hx1, hl1, hi1⟩ := at_R Hl.out (i : Int) p0 p1
        cases e1
        have er : rdR L (i : Int) = L.getD i [] := by unfold rdR; rw [Int.toNat_natCast]
        rw [er] at hx1 hl1 hi1
        rw [Int.toNat_natCast] at hx1
        have HX0 := Aside0.mk hx1
        replace hx1 := (HW.out.cell (World.block_lt_of_cell? _ _ hx1)).trans hx1
        have hx0 := Kd.C_below hi1 HW.out
        have HS := Aside0.mk (cu_succ (fun r => r.take 10) L i hi)
        have hnx := cu_next i (by omega)
        have q4 := eq_true p0
        have q5 := eq_true p1
        have q6 := eq_true hi
        have Hi := Aside0.mk (And.intro hi h12)
        clear p0 p1 hi er hi1 h12
        generalize L.getD i [] = x at *
        obtain ⟨q, hq⟩ : ∃ q, q = min x.length 10 := ⟨_, rfl⟩
        have hmn : (if (x.length : Int) < 10 then (x.length : Int) else 10) = (q : Int) := by rw [hq]; split <;> omega
        have hmn2 : (if 10 < (x.length : Int) then (10 : Int) else (x.length : Int)) = (q : Int) := by rw [hq]; split <;> omega
        have hmn3 : min (x.length : Int) 10 = (q : Int) := by rw [hq]; omega
        have hqx : q ≤ x.length := by omega
        have et : x.take 10 = x.take q := by rw [hq, List.take_eq_take_iff]; omega
        obtain ⟨info, hinfo, hinf2⟩ := Option.map_eq_some_iff.1 infoT5
        have hcut1 := cut_to (P := Try.prog) 23 5 .i64 Try.underlying23 hinfo Ai x.length ci (q : Int) (Int.natCast_nonneg _) (Int.ofNat_le.2 hqx) hl1
        rw [Int.toNat_natCast] at hcut1
        have ht := Kd.C_take (m := q) hx0 hqx
        have e1 : (x.take q).length = q := by rw [List.length_take]; omega
        obtain ⟨z, hz⟩ : ∃ z, z = x.take q := ⟨_, rfl⟩
        rw [← hz] at ht e1
        rw [e1] at ht
        rw [et, ← hz] at HS
        have LEN := Aside0.mk (show ((((L.take i).map fun r => r.take 10) : List (List Int)).length + [z].length) * 24 ≤ 140737488355328 from cu_len (i := i) L (fun r => r.take 10) z (by have := Hi.out; omega))
        have HT := Aside0.mk ht
        have E1 := Aside0.mk e1
        have Q12 := Aside0.mk (show q ≤ 10 from by omega)
        have q7 := eq_true (Int.natCast_nonneg q)
        have q8 := eq_true (show (q : Int) ≤ (x.length : Int) from Int.ofNat_le.2 hqx)
        clear hx0 hq ht e1 et hinfo hinf2 hqx hz
        cases gk with
        | zero => exact absurd HI.out (by have := Hi.out; omega)
        | succ k1 =>
        go_wp2
        refine start_ (n := 16) (S := fun w' => w'.cell? (ad.add i) = some (.slice Ai x.length ci)) (ds := []) #[false, false, false, false, false, false, false, false, false, false, false, false, false, false, false, false] (by kernel_rfl) rfl rfl (by simpa using hx1) (fun hHeld => ?_)
        have HX := HT
        replace HX := Aside0.mk (Kd.C_below HT.out (below_drew (Below.refl wr.heap.size wr)))
        replace HN := Aside0.mk (Kd.N_drew HN.out)
        replace HW := Aside0.mk (below_drew HW.out)
        clear hx1 HT
        generalize wr.drew = w4 at HX HN HW hHeld ⊢
        refine pure_ (i := 0) (N := some 15) (v := ?_) (a' := ?_) #[true, false, false, false, false, false, false, false, false, false, false, false, false, false, false, false] rfl rfl (by kernel_rfl) (fun _ _ _ h => h) (Or.inl ⟨by rfl, ?_⟩) ?_ ?_
        rotate_left
        · intro w'
          go_simp
          with_reducible rfl
        rotate_left
        · simp only [Act.put, List.setIfInBounds_toArray, List.set_cons_zero, List.set_cons_succ, i64_w, i32_w]
          rfl
        refine pure_ (i := 1) (N := some 16) (v := ?_) (a' := ?_) #[true, true, false, false, false, false, false, false, false, false, false, false, false, false, false, false] rfl rfl (by kernel_rfl) (fun _ _ _ h => h) (Or.inl ⟨by rfl, ?_⟩) ?_ ?_
        rotate_left
        · intro w'
          go_simp
          with_reducible rfl
        rotate_left
        · simp only [Act.put, List.setIfInBounds_toArray, List.set_cons_zero, List.set_cons_succ, i64_w, i32_w]
          rfl
        refine pure_ (i := 2) (N := some 17) (v := ?_) (a' := ?_) #[true, true, true, false, false, false, false, false, false, false, false, false, false, false, false, false] rfl rfl (by kernel_rfl) (fun _ _ _ h => h) (Or.inl ⟨by rfl, ?_⟩) ?_ ?_
        rotate_left
        · intro w'
          go_simp
          with_reducible rfl
        rotate_left
        · simp only [Act.put, List.setIfInBounds_toArray, List.set_cons_zero, List.set_cons_succ, i64_w, i32_w]
          rfl
        refine pure_ (i := 3) (N := some 18) (v := ?_) (a' := ?_) #[true, true, true, true, false, false, false, false, false, false, false, false, false, false, false, false] rfl rfl (by kernel_rfl) (fun _ _ _ h => h) (Or.inl ⟨by rfl, ?_⟩) ?_ ?_
        rotate_left
        · intro w'
          go_simp
          with_reducible rfl
        rotate_left
        · simp only [Act.put, List.setIfInBounds_toArray, List.set_cons_zero, List.set_cons_succ, i64_w, i32_w]
          rfl
        refine pure_ (i := 5) (N := some 20) (v := ?_) (a' := ?_) #[true, true, true, true, false, true, false, false, false, false, false, false, false, false, false, false] rfl rfl (by kernel_rfl) (fun _ _ _ h => h) (Or.inl ⟨by rfl, ?_⟩) ?_ ?_
        rotate_left
        · intro w'
          go_simp
          with_reducible rfl
        rotate_left
        · simp only [Act.put, List.setIfInBounds_toArray, List.set_cons_zero, List.set_cons_succ, i64_w, i32_w]
          rfl
        refine pure_ (i := 6) (N := some 21) (v := ?_) (a' := ?_) #[true, true, true, true, false, true, true, false, false, false, false, false, false, false, false, false] rfl rfl (by kernel_rfl) (fun _ _ _ h => h) (Or.inl ⟨by rfl, ?_⟩) ?_ ?_
        rotate_left
        · intro w'
          go_simp
          with_reducible rfl
        rotate_left
        · simp only [Act.put, List.setIfInBounds_toArray, List.set_cons_zero, List.set_cons_succ, i64_w, i32_w]
          rfl
        refine pure_ (i := 7) (N := some 22) (v := ?_) (a' := ?_) #[true, true, true, true, false, true, true, true, false, false, false, false, false, false, false, false] rfl rfl (by kernel_rfl) (fun _ _ _ h => h) (Or.inl ⟨by rfl, ?_⟩) ?_ ?_
        rotate_left
        · intro w'
          go_simp
          with_reducible rfl
        rotate_left
        · simp only [Act.put, List.setIfInBounds_toArray, List.set_cons_zero, List.set_cons_succ, i64_w, i32_w]
          rfl
        refine take_ (i := 4) (N := some 19) (v := ?_) (a' := ?_) #[true, true, true, true, true, true, true, true, false, false, false, false, false, false, false, false] rfl rfl (by kernel_rfl) (fun _ _ _ h => h) (Or.inl ⟨by rfl, ?_⟩) hHeld ?_ ?_
        rotate_left
        · intro w' s0
          go_simp
          with_reducible rfl
        rotate_left
        · simp only [Act.put, List.setIfInBounds_toArray, List.set_cons_zero, List.set_cons_succ, i64_w, i32_w]
          rfl
        refine take_ (i := 8) (N := some 23) (v := ?_) (a' := ?_) #[true, true, true, true, true, true, true, true, true, false, false, false, false, false, false, false] rfl rfl (by kernel_rfl) (fun _ _ _ h => h) (Or.inl ⟨by rfl, ?_⟩) hHeld ?_ ?_
        rotate_left
        · intro w' s0
          go_simp
          with_reducible rfl
        rotate_left
        · simp only [Act.put, List.setIfInBounds_toArray, List.set_cons_zero, List.set_cons_succ, i64_w, i32_w]
          rfl
        refine pure_ (i := 9) (N := some 24) (v := ?_) (a' := ?_) #[true, true, true, true, true, true, true, true, true, true, false, false, false, false, false, false] rfl rfl (by kernel_rfl) (fun _ _ _ h => h) (Or.inl ⟨by rfl, ?_⟩) ?_ ?_
        rotate_left
        · intro w'
          go_simp
          with_reducible rfl
        rotate_left
        · simp only [Act.put, List.setIfInBounds_toArray, List.set_cons_zero, List.set_cons_succ, i64_w, i32_w]
          rfl
        refine pure_ (i := 10) (N := some 25) (v := ?_) (a' := ?_) #[true, true, true, true, true, true, true, true, true, true, true, false, false, false, false, false] rfl rfl (by kernel_rfl) (fun _ _ _ h => h) (Or.inl ⟨by rfl, ?_⟩) ?_ ?_
        rotate_left
        · intro w'
          go_simp
          with_reducible rfl
        rotate_left
        · simp only [Act.put, List.setIfInBounds_toArray, List.set_cons_zero, List.set_cons_succ, i64_w, i32_w]
          rfl
        refine pure_ (i := 11) (N := some 26) (v := ?_) (a' := ?_) #[true, true, true, true, true, true, true, true, true, true, true, true, false, false, false, false] rfl rfl (by kernel_rfl) (fun _ _ _ h => h) (Or.inl ⟨by rfl, ?_⟩) ?_ ?_
        rotate_left
        · intro w'
          go_simp
          with_reducible rfl
        rotate_left
        · simp only [Act.put, List.setIfInBounds_toArray, List.set_cons_zero, List.set_cons_succ, i64_w, i32_w]
          rfl
        refine one_ (i := 12) (N := some 27) #[true, true, true, true, true, true, true, true, true, true, true, true, true, false, false, false] rfl rfl (by kernel_rfl) (by decide) (fun K hK => ?_)
        refine Kd.R_append_rows_step (Kd.int .u8) (w0 := w4) w4.heap.size (by rfl) (.const (.slice none 0 0)) (.tmp 26) 23 5 (.int .u8 0) 1 rfl Try.underlying23 infoT5 rfl (by decide) (by decide) (.slice none 0 0) [] z Ai q ci (fun _ => True) (fun _ => False) rfl rfl (Kd.R_nil _ _ _ _ _) HX.out (fun _ _ h => h) (fun _ h => h.elim) (fun _ _ => trivial) (Below.refl _ _) (Nat.le_refl _) (by have := Q12.out; rw [List.length_nil]; omega) ?_
        intro v5 w5 hR hb _ _
        rw [List.nil_append] at hR
        have HLT := Aside0.mk (Kd.N_lt HN.out)
        have H45 := Aside0.mk hb.size
        obtain ⟨As, cs, rfl⟩ := Kd.R_slice hR
        have Hs := Aside0.mk (Kd.R_mono (ok' := fun k_ => some k_ ≠ u3.ownBlock) (Kd.R_bound hR) (fun k_ hk e_ => by have := HLT.out _ e_.symm; have := hk.2.1; omega))
        have Cs := Aside0.mk (Kd.R_reads' hR).2.1
        replace HN := Aside0.mk (Kd.N_below HN.out hb)
        replace HW := Aside0.mk (HW.out.trans (hb.mono HW.out.size))
        clear hR HX
        refine hK.out _ _ ((hb.cell (World.block_lt_of_cell? _ _ hHeld)).trans hHeld) (fun hHeld => ?_)
        clear hK K
        refine norm_ (a' := ?_) ?_ ?_
        rotate_left
        · show Act.put _ (some 27) _ = _
          simp only [Act.put, List.setIfInBounds_toArray, List.set_cons_zero, List.set_cons_succ, i64_w, i32_w]
          rfl
        refine one_ (i := 13) (N := some 28) #[true, true, true, true, true, true, true, true, true, true, true, true, true, true, false, false] rfl rfl (by kernel_rfl) (by decide) (fun K hK => ?_)
        refine Kd.N_lit_step rowK (w0 := w5) w5.heap.size 23 (by rfl) (N' := 28) rfl (xs := [z]) (inner := [.slice As z.length cs]) (ok := fun k_ => some k_ ≠ u3.ownBlock) (okp := fun k_ => some k_ ≠ u3.ownBlock) ?hr (Reps.one (show Kd.FK rowK _ _ z [.slice As z.length cs] from Kd.FK_slice_mk Cs.out (Kd.R_F Hs.out)) (Reps.none _ _)) (fun _ h => h) (fun e_ => by have := HLT.out _ e_.symm; have := H45.out; omega) (Below.refl _ _) (Nat.le_refl _) (by simp) ?_
        case hr => first | (go_simp; done) | (go_simp; rfl)
        intro v_ w6 ho_ hb _ _
        obtain ⟨At, ct, rfl⟩ := Kd.N_slice ho_
        have HTT := Aside0.mk (Kd.N_F ho_)
        replace HN := Aside0.mk (Kd.N_below HN.out hb)
        replace HW := Aside0.mk (HW.out.trans (hb.mono HW.out.size))
        clear ho_
        refine hK.out _ _ ((hb.cell (World.block_lt_of_cell? _ _ hHeld)).trans hHeld) (fun hHeld => ?_)
        clear hK K
        refine norm_ (a' := ?_) ?_ ?_
        rotate_left
        · show Act.put _ (some 28) _ = _
          simp only [Act.put, List.setIfInBounds_toArray, List.set_cons_zero, List.set_cons_succ, i64_w, i32_w]
          rfl
        refine one_ (i := 14) (N := some 29) #[true, true, true, true, true, true, true, true, true, true, true, true, true, true, true, false] rfl rfl (by kernel_rfl) (by decide) (fun K hK => ?_)
        refine Kd.N_append_rows_step rowK (w0 := w) w.heap.size (by rfl) (.tmp 15) (.tmp 28) 22 23 (.slice none 0 0) 24 rfl Try.underlying22 infoRows rfl (show 0 < 1 by decide) (by decide) u3 ((L.take i).map fun r => r.take 10) [z] At [z].length ct (fun _ => True) (fun k_ => some k_ ≠ u3.ownBlock) rfl rfl HN.out HTT.out (fun k hk => ⟨trivial, hk⟩) (fun _ _ => trivial) HW.out HW.out.size ?hl ?hK
        case hl => exact LEN.out
        intro v9 w9 hN hb9 _ _
        have HN9 := Aside0.mk hN
        have HW9 := Aside0.mk hb9
        have hb := (show Below w.heap.size w w9 from hb9)
        clear hN
        refine hK.out _ _ ((hb9.cell (World.block_lt_of_cell? _ _ HX0.out)).trans HX0.out) (fun hHeld => ?_)
        clear hK K
        refine norm_ (a' := ?_) ?_ ?_
        rotate_left
        · show Act.put _ (some 29) _ = _
          simp only [Act.put, List.setIfInBounds_toArray, List.set_cons_zero, List.set_cons_succ, i64_w, i32_w]
          rfl
        refine pure_ (i := 15) (N := some 3) (v := ?_) (a' := ?_) #[true, true, true, true, true, true, true, true, true, true, true, true, true, true, true, true] rfl rfl (by kernel_rfl) (fun _ _ _ h => h) (Or.inl ⟨by rfl, ?_⟩) ?_ ?_
        rotate_left
        · intro w'
          go_simp
          with_reducible rfl
        rotate_left
        · simp only [Act.put, List.setIfInBounds_toArray, List.set_cons_zero, List.set_cons_succ, i64_w, i32_w]
          rfl
        refine done_ (by kernel_rfl) ?_
        clear hHeld
        go_wp2
        go_roundg k1
        case measure => omega
        case rel => exact ⟨i + 1, by first | rfl | rw [hnx], ⟨by have := HI.out; omega⟩, ⟨by have := Hi.out; omega⟩, ⟨by rw [HS.out]; exact HN9.out⟩, HW9⟩
      · have r1 : decide ((i : Int) < 10) = false := decide_eq_false (by omega)
        have r2 : ((i : Int) < 10) = False := eq_false (by omega)
        have r3 : (i < 10) = False := eq_false h12
        have e : i = 10 := by have := HI.out; omega
        have HE := Aside0.mk (show cutL L = (L.take i).map fun r => r.take 10 from by rw [e]; rfl)
        have q4 := eq_true p1
        have q5 := eq_true hi
        clear hi h12 p0 p1 e
        go_wp2
        go_ret
        exact ⟨_, rfl, by rw [HE.out]; exact HN.out, HW.out⟩
    · have q1 : decide ((i : Int) < (L.length : Int)) = false := decide_eq_false (by omega)
      have q2 : decide (i < L.length) = false := decide_eq_false hi
      have q3 := eq_false hi
      have e : i = L.length := by have := HIL.out; omega
      have HE := Aside0.mk (show cutL L = (L.take i).map fun r => r.take 10 from by
        unfold cutL
        rw [e, List.take_length, List.take_of_length_le (by have := HI.out; omega)])
      clear hi e
      go_wp2
      go_ret
      exact ⟨_, rfl, by rw [HE.out]; exact HN.out, HW.out⟩
end Go.Proofs.Ythgpmneplpdeiaa.Plain
end

section
set_option linter.unusedVariables false
set_option linter.unusedSimpArgs false
namespace Go.Proofs.Ythgpmneplpdeiaa.Hand
open Go.RowKit Go.Proofs.YthgpmneplpdeiaaW.PrintWords Go.Proofs.YthgpmneplpdeiaaW.PrintLast Go.Proofs.YthgpmneplpdeiaaW.PrintMore
theorem rs_next (k : Nat) (h : k ≤ 1000000000) : wrap64 ((k : Int) + 1) = ((k + 1 : Nat) : Int) := by unfold wrap64; omega
set_option maxHeartbeats 4000000 in
set_option maxRecDepth 100000 in
theorem refSame_calls (A0 : Option Addr) (c0 : Nat) (l0 : List (List Int)) (A1 : Option Addr) (c1 : Nat) (l1 : List (List Int)) (w : World) (hr0 : Kd.C rowK w A0 l0.length l0) (hr1 : Kd.C rowK w A1 l1.length l1) (hl : l0.length < 1000000000) (hb0 : ∀ x ∈ l0, areB x) (hb1 : ∀ x ∈ l1, areB x) :
    Calls Try.prog 12 #[.slice A0 l0.length c0, .slice A1 l1.length c1] w fun e w' => e = .returned (.bool (decide (l0 = l1))) ∧ Below w.heap.size w w' := by
  have HR0 := Aside0.mk hr0
  have HR1 := Aside0.mk hr1
  have HL := Aside0.mk hl
  have B0 := Aside0.mk hb0
  have B1 := Aside0.mk hb1
  clear hr0 hr1 hl hb0 hb1
  by_cases hn : l0.length = l1.length
  · have q0 : ((l0.length : Int) != (l1.length : Int)) = false := by simp [hn]
    have Hn := Aside0.mk hn
    clear hn
    go_enter Try.func12, Try.ntmps12
    go_wp2
    clear q0
    go_loopg [5] l0.length (fun kq v5 w' => ∃ i : Nat, v5 = .int .i64 (i : Int) ∧ Aside0 (kq + i = l0.length) ∧ Aside0 (∀ j, j < i → l0[j]? = l1[j]?) ∧ Aside0 (Below w.heap.size w w'))
    case atStart => exact ⟨0, rfl, ⟨by omega⟩, ⟨fun j hj => absurd hj (by omega)⟩, ⟨Below.refl _ _⟩⟩
    case round =>
      obtain ⟨i, rfl, HI, HE, HW⟩ := hrel
      by_cases hi : i < l0.length
      · have hi' : i < l1.length := by have := Hn.out; omega
        have q1 : decide ((i : Int) < (l0.length : Int)) = true := decide_eq_true (by omega)
        have p0 : (0 : Int) ≤ (i : Int) := Int.natCast_nonneg _
        have p1 : (i : Int) < (l0.length : Int) := Int.ofNat_lt.2 hi
        have p2 : (i : Int) < (l1.length : Int) := Int.ofNat_lt.2 hi'
        obtain ⟨ad, Ai, ci, e1, hx1, hl1, hi1⟩ := at_R HR0.out (i : Int) p0 p1
        cases e1
        obtain ⟨bd, Bi, di, e2, hx2, hl2, hi2⟩ := at_R HR1.out (i : Int) p0 p2
        cases e2
        have er : rdR l0 (i : Int) = l0[i] := by unfold rdR; rw [Int.toNat_natCast, List.getD_eq_getElem?_getD, List.getElem?_eq_getElem hi, Option.getD_some]
        have er' : rdR l1 (i : Int) = l1[i] := by unfold rdR; rw [Int.toNat_natCast, List.getD_eq_getElem?_getD, List.getElem?_eq_getElem hi', Option.getD_some]
        rw [er] at hx1 hl1 hi1
        rw [er'] at hx2 hl2 hi2
        rw [Int.toNat_natCast] at hx1 hx2
        replace hx1 := (HW.out.cell (World.block_lt_of_cell? _ _ hx1)).trans hx1
        replace hx2 := (HW.out.cell (World.block_lt_of_cell? _ _ hx2)).trans hx2
        have H1 := Kd.C_below hi1 HW.out
        have H2 := Kd.C_below hi2 HW.out
        have bx := B0.out _ (List.getElem_mem hi)
        have by_ := B1.out _ (List.getElem_mem hi')
        have hnx := rs_next i (by have := HL.out; omega)
        have Hi := Aside0.mk hi
        have HG := Aside0.mk (show l0[i]? = some l0[i] ∧ l1[i]? = some l1[i] from ⟨List.getElem?_eq_getElem hi, List.getElem?_eq_getElem hi'⟩)
        have q4 := eq_true p0
        have q5 := eq_true p1
        have q6 := eq_true hi
        have q7 := eq_true p2
        have q8 := eq_true hi'
        clear er er' hi1 hi2 hl1 hl2
        generalize l0[i] = x at *
        generalize l1[i] = y at *
        clear p0 p1 p2 hi hi'
        cases gk with
        | zero => exact absurd HI.out (by have := Hi.out; omega)
        | succ k1 =>
        go_wp2
        refine start_ (n := 11) (S := fun w' => w'.cell? (ad.add i) = some (.slice Ai x.length ci) ∧ w'.cell? (bd.add i) = some (.slice Bi y.length di) ∧ Kd.C (Kd.int .u8) w' Ai x.length x ∧ Kd.C (Kd.int .u8) w' Bi y.length y) (ds := []) #[false, false, false, false, false, false, false, false, false, false, false] (by kernel_rfl) rfl rfl ⟨(by simpa using hx1), (by simpa using hx2), (Kd.C_drew H1), (Kd.C_drew H2)⟩ (fun hHeld => ?_)
        refine pure_ (i := 0) (N := some 17) (v := ?_) (a' := ?_) #[true, false, false, false, false, false, false, false, false, false, false] rfl rfl (by kernel_rfl) (fun _ _ _ h => h) (Or.inl ⟨by rfl, ?_⟩) ?_ ?_
        rotate_left
        · intro w'
          go_simp
          with_reducible rfl
        rotate_left
        · simp only [Act.put, List.setIfInBounds_toArray, List.set_cons_zero, List.set_cons_succ, i64_w, i32_w]
          rfl
        refine pure_ (i := 1) (N := some 18) (v := ?_) (a' := ?_) #[true, true, false, false, false, false, false, false, false, false, false] rfl rfl (by kernel_rfl) (fun _ _ _ h => h) (Or.inl ⟨by rfl, ?_⟩) ?_ ?_
        rotate_left
        · intro w'
          go_simp
          with_reducible rfl
        rotate_left
        · simp only [Act.put, List.setIfInBounds_toArray, List.set_cons_zero, List.set_cons_succ, i64_w, i32_w]
          rfl
        refine pure_ (i := 2) (N := some 19) (v := ?_) (a' := ?_) #[true, true, true, false, false, false, false, false, false, false, false] rfl rfl (by kernel_rfl) (fun _ _ _ h => h) (Or.inl ⟨by rfl, ?_⟩) ?_ ?_
        rotate_left
        · intro w'
          go_simp
          with_reducible rfl
        rotate_left
        · simp only [Act.put, List.setIfInBounds_toArray, List.set_cons_zero, List.set_cons_succ, i64_w, i32_w]
          rfl
        refine pure_ (i := 5) (N := some 22) (v := ?_) (a' := ?_) #[true, true, true, false, false, true, false, false, false, false, false] rfl rfl (by kernel_rfl) (fun _ _ _ h => h) (Or.inl ⟨by rfl, ?_⟩) ?_ ?_
        rotate_left
        · intro w'
          go_simp
          with_reducible rfl
        rotate_left
        · simp only [Act.put, List.setIfInBounds_toArray, List.set_cons_zero, List.set_cons_succ, i64_w, i32_w]
          rfl
        refine pure_ (i := 6) (N := some 23) (v := ?_) (a' := ?_) #[true, true, true, false, false, true, true, false, false, false, false] rfl rfl (by kernel_rfl) (fun _ _ _ h => h) (Or.inl ⟨by rfl, ?_⟩) ?_ ?_
        rotate_left
        · intro w'
          go_simp
          with_reducible rfl
        rotate_left
        · simp only [Act.put, List.setIfInBounds_toArray, List.set_cons_zero, List.set_cons_succ, i64_w, i32_w]
          rfl
        refine pure_ (i := 7) (N := some 24) (v := ?_) (a' := ?_) #[true, true, true, false, false, true, true, true, false, false, false] rfl rfl (by kernel_rfl) (fun _ _ _ h => h) (Or.inl ⟨by rfl, ?_⟩) ?_ ?_
        rotate_left
        · intro w'
          go_simp
          with_reducible rfl
        rotate_left
        · simp only [Act.put, List.setIfInBounds_toArray, List.set_cons_zero, List.set_cons_succ, i64_w, i32_w]
          rfl
        refine take_ (i := 3) (N := some 20) (v := ?_) (a' := ?_) #[true, true, true, true, false, true, true, true, false, false, false] rfl rfl (by kernel_rfl) (fun _ _ _ h => h) (Or.inl ⟨by rfl, ?_⟩) hHeld ?_ ?_
        rotate_left
        · rintro w' ⟨s0, s1, s2, s3⟩
          go_simp
          with_reducible rfl
        rotate_left
        · simp only [Act.put, List.setIfInBounds_toArray, List.set_cons_zero, List.set_cons_succ, i64_w, i32_w]
          rfl
        refine take_ (i := 4) (N := some 21) (v := ?_) (a' := ?_) #[true, true, true, true, true, true, true, true, false, false, false] rfl rfl (by kernel_rfl) (fun _ _ _ h => h) (Or.inl ⟨by rfl, ?_⟩) hHeld ?_ ?_
        rotate_left
        · rintro w' ⟨s0, s1, s2, s3⟩
          have hq_ := Kd.C_string (P := Try.prog) (A := Ai) (c := ci) Try.underlying23 Try.underlying5 Try.underlying9 s2
          refine (conv_run rfl hq_ (by rfl)).trans ?_
          with_reducible rfl
        rotate_left
        · simp only [Act.put, List.setIfInBounds_toArray, List.set_cons_zero, List.set_cons_succ, i64_w, i32_w]
          rfl
        refine take_ (i := 8) (N := some 25) (v := ?_) (a' := ?_) #[true, true, true, true, true, true, true, true, true, false, false] rfl rfl (by kernel_rfl) (fun _ _ _ h => h) (Or.inl ⟨by rfl, ?_⟩) hHeld ?_ ?_
        rotate_left
        · rintro w' ⟨s0, s1, s2, s3⟩
          go_simp
          with_reducible rfl
        rotate_left
        · simp only [Act.put, List.setIfInBounds_toArray, List.set_cons_zero, List.set_cons_succ, i64_w, i32_w]
          rfl
        refine take_ (i := 9) (N := some 26) (v := ?_) (a' := ?_) #[true, true, true, true, true, true, true, true, true, true, false] rfl rfl (by kernel_rfl) (fun _ _ _ h => h) (Or.inl ⟨by rfl, ?_⟩) hHeld ?_ ?_
        rotate_left
        · rintro w' ⟨s0, s1, s2, s3⟩
          have hq_ := Kd.C_string (P := Try.prog) (A := Bi) (c := di) Try.underlying23 Try.underlying5 Try.underlying9 s3
          refine (conv_run rfl hq_ (by rfl)).trans ?_
          with_reducible rfl
        rotate_left
        · simp only [Act.put, List.setIfInBounds_toArray, List.set_cons_zero, List.set_cons_succ, i64_w, i32_w]
          rfl
        refine pure_ (i := 10) (N := some 27) (v := ?_) (a' := ?_) #[true, true, true, true, true, true, true, true, true, true, true] rfl rfl (by kernel_rfl) (fun _ _ _ h => h) (Or.inl ⟨by rfl, ?_⟩) ?_ ?_
        rotate_left
        · intro w'
          go_simp
          with_reducible rfl
        rotate_left
        · simp only [Act.put, List.setIfInBounds_toArray, List.set_cons_zero, List.set_cons_succ, i64_w, i32_w]
          rfl
        refine done_ (by kernel_rfl) ?_
        clear hHeld H1 H2 hx1 hx2
        replace HW := Aside0.mk (below_drew HW.out)
        by_cases e : x = y
        · have r1 : ((strOfNums x).toList == (strOfNums y).toList) = true := by rw [e]; simp
          have r2 : ((strOfNums x).toList = (strOfNums y).toList) = True := eq_true (by rw [e])
          have E := Aside0.mk e
          clear e r2
          rw [show (!(strOfNums x).toList == (strOfNums y).toList) = false from by rw [r1]; rfl]
          clear r1
          go_wp2
          go_roundg k1
          case measure => omega
          case rel => exact ⟨i + 1, by first | rfl | rw [hnx], ⟨by have := HI.out; omega⟩, ⟨fun j hj => by
            by_cases q : j = i
            · subst q; rw [HG.out.1, HG.out.2, E.out]
            · exact HE.out j (by omega)⟩, HW⟩
        · have r0 : (strOfNums x).toList ≠ (strOfNums y).toList := fun h => e (strOf_inj bx by_ h)
          have r1 : ((strOfNums x).toList == (strOfNums y).toList) = false := beq_eq_false_iff_ne.2 r0
          have r2 : ((strOfNums x).toList = (strOfNums y).toList) = False := eq_false r0
          have hne : decide (l0 = l1) = false := decide_eq_false fun q => e (by
            have h1 := HG.out.1
            have h2 := HG.out.2
            rw [q, h2] at h1
            exact (Option.some.inj h1).symm)
          have HNE := Aside0.mk hne
          clear e r0 hne r2
          rw [show (!(strOfNums x).toList == (strOfNums y).toList) = true from by rw [r1]; rfl]
          clear r1
          go_wp2
          go_ret
          exact ⟨by rw [HNE.out]; first | rfl | simp, HW.out⟩
      · have q1 : decide ((i : Int) < (l0.length : Int)) = false := decide_eq_false (by omega)
        have q2 : decide (i < l0.length) = false := decide_eq_false hi
        have q3 := eq_false hi
        have HNE := Aside0.mk (show decide (l0 = l1) = true from decide_eq_true (List.ext_getElem? fun j => by
          by_cases q : j < i
          · exact HE.out j q
          · have h1 := HI.out
            have h2 := Hn.out
            rw [List.getElem?_eq_none (by omega), List.getElem?_eq_none (by omega)]))
        clear hi
        go_wp2
        go_ret
        exact ⟨by rw [HNE.out]; first | rfl | simp, HW.out⟩
  · have q0 : ((l0.length : Int) != (l1.length : Int)) = true := by simp; omega
    have q1 : ((l0.length : Int) = (l1.length : Int)) = False := eq_false (by omega)
    have q2 : (l0.length = l1.length) = False := eq_false hn
    have HNE := Aside0.mk (show decide (l0 = l1) = false from decide_eq_false fun e => hn (by rw [e]))
    clear hn
    go_enter Try.func12, Try.ntmps12
    go_wp2
    go_ret
    exact ⟨by rw [HNE.out]; first | rfl | simp, Below.refl _ _⟩
end Go.Proofs.Ythgpmneplpdeiaa.Hand
end

section
set_option linter.unusedVariables false
set_option linter.unusedSimpArgs false
namespace Go.Proofs.Ythgpmneplpdeiaa.Plain
open Go.Proofs.Ythgpmneplpdeiaa.Hand Go.RowKit Go.Proofs.YthgpmneplpdeiaaW.PrintWords Go.Proofs.YthgpmneplpdeiaaW.PrintLast Go.Proofs.YthgpmneplpdeiaaW.PrintMore
def Row8 (W : World) (b : Nat) (v : Value) (n : Nat) : Prop := ∃ A c, v = .slice A n c ∧ (0 < n → ∃ g cells, A = some ⟨g, 0, none⟩ ∧ b ≤ g ∧ W.heap[g]? = some (.cells cells 5 (0, 0)) ∧ ∀ i, i < n → ∃ x, cells[i]? = some (.int .u8 x))
theorem Row8.of_R {W : World} {b : Nat} {ok : Nat → Prop} {v : Value} {xs : List Int} (h : Kd.R (Kd.int .u8) 5 W b ok v xs) : Row8 W b v xs.length := by
  obtain ⟨A, c, rfl⟩ := Kd.R_slice h
  refine ⟨A, c, rfl, fun hp => ?_⟩
  obtain ⟨g, cap, e, hg, _, cells, hc⟩ := Kd.R_form h hp
  injection e with e1 e2 e3
  subst e1 e3
  refine ⟨g, cells, rfl, hg, hc, fun i hi => ?_⟩
  have := (Kd.R_celln (0 : Int) h (i : Int) (by omega) (by omega)).1
  rw [Int.toNat_natCast] at this
  simp [World.cell?, hc] at this
  exact ⟨_, this⟩
theorem Row8.step {W W' : World} {b : Nat} {v : Value} {n : Nat} (h : Row8 W b v n) (hb : Below W.heap.size W W') : Row8 W' b v n := by
  obtain ⟨A, c, rfl, h⟩ := h
  refine ⟨A, c, rfl, fun hp => ?_⟩
  obtain ⟨g, cells, e, hg, hc, hx⟩ := h hp
  refine ⟨g, cells, e, hg, (hb.block g ?_).trans hc, hx⟩
  rcases Nat.lt_or_ge g W.heap.size with q | q
  · exact q
  · rw [Array.getElem?_eq_none q] at hc; cases hc
theorem Row8.set {W : World} {b : Nat} {v : Value} {n : Nat} (h : Row8 W b v n) (g' j : Nat) (y : Int) : Row8 (W.setCell ⟨g', j, none⟩ (.int .u8 y)) b v n := by
  obtain ⟨A, c, rfl, h⟩ := h
  refine ⟨A, c, rfl, fun hp => ?_⟩
  obtain ⟨g, cells, e, hg, hc, hx⟩ := h hp
  by_cases q : g = g'
  · subst q
    refine ⟨g, cells.setIfInBounds j (.int .u8 y), e, hg, ?_, fun i hi => ?_⟩
    · simp only [World.setCell, Array.getElem?_modify, if_true, hc, Option.map_some]
      simp
    · obtain ⟨x, hx⟩ := hx i hi
      by_cases r : j = i
      · subst r
        have hlt : j < cells.size := by
          rcases Nat.lt_or_ge j cells.size with q | q
          · exact q
          · rw [Array.getElem?_eq_none q] at hx; cases hx
        exact ⟨y, by simp [hlt]⟩
      · exact ⟨x, by rw [Array.getElem?_setIfInBounds_ne r]; exact hx⟩
  · exact ⟨g, cells, e, hg, (Below.heap_setCell _ _ _ _ q).trans hc, hx⟩
theorem Row8.get {W : World} {b : Nat} {v : Value} {n i : Nat} (h : Row8 W b v n) (hi : i < n) : ∃ g c x, v = .slice (some ⟨g, 0, none⟩) n c ∧ b ≤ g ∧ W.cell? ⟨g, i, none⟩ = some (.int .u8 x) ∧ W.frozen? ⟨g, i, none⟩ = false := by
  obtain ⟨A, c, rfl, h⟩ := h
  obtain ⟨g, cells, rfl, hg, hc, hx⟩ := h (by omega)
  obtain ⟨x, hx⟩ := hx i hi
  exact ⟨g, c, x, rfl, hg, by simp [World.cell?, hc, hx], by simp [World.frozen?, hc]⟩
def Rows8 (W : World) (b : Nat) (v : Value) (n : Nat) : Prop := ∃ A c, v = .slice A n c ∧ (0 < n → ∃ g outer, A = some ⟨g, 0, none⟩ ∧ b ≤ g ∧ W.heap[g]? = some (.cells outer 23 (0, 0)) ∧ ∀ i, i < n → ∃ A' m c', outer[i]? = some (.slice A' m c') ∧ m ≤ 1000000 ∧ Row8 W b (.slice A' m c') m)
theorem Rows8.of_R {W : World} {b : Nat} {ok : Nat → Prop} {v : Value} {xs : List (List Int)} (h : Kd.R rowK 23 W b ok v xs) (hm : ∀ i, (xs.getD i []).length ≤ 1000000) : Rows8 W b v xs.length := by
  obtain ⟨A, c, rfl⟩ := Kd.R_slice h
  refine ⟨A, c, rfl, fun hp => ?_⟩
  obtain ⟨g, cap, e, hg, _, cells, hc⟩ := Kd.R_form h hp
  injection e with e1 e2 e3
  subst e1 e3
  refine ⟨g, cells, rfl, hg, hc, fun i hi => ?_⟩
  obtain ⟨cs, h1, h2, h3, _⟩ := Kd.R_elem h [] (i : Int) (by omega) (by omega)
  obtain ⟨v', rfl, hR⟩ := h2
  obtain ⟨A', c', rfl⟩ := Kd.R_slice hR
  have h4 := h3 0 _ rfl
  rw [Int.toNat_natCast, show (rowK).sz = 1 from rfl, Nat.mul_one, Nat.add_zero] at h4
  simp only [World.cell?, hc] at h4
  refine ⟨A', _, c', by simpa using h4, by simpa using hm i, ?_⟩
  exact Row8.of_R hR
theorem Rows8.set {W : World} {b : Nat} {v : Value} {n : Nat} (h : Rows8 W b v n) {g' : Nat} {cells : Array Value} (hg : W.heap[g']? = some (.cells cells 5 (0, 0))) (j : Nat) (y : Int) : Rows8 (W.setCell ⟨g', j, none⟩ (.int .u8 y)) b v n := by
  obtain ⟨A, c, rfl, h⟩ := h
  refine ⟨A, c, rfl, fun hp => ?_⟩
  obtain ⟨g, outer, e, hb, hc, hx⟩ := h hp
  have hne : g ≠ g' := fun q => by
    rw [q, hg] at hc
    injection hc with hc
    injection hc with _ hc
    exact absurd hc (by decide)
  exact ⟨g, outer, e, hb, (Below.heap_setCell _ _ _ _ hne).trans hc, fun i hi => by
    obtain ⟨A', m, c', k1, k0, k2⟩ := hx i hi
    exact ⟨A', m, c', k1, k0, k2.set g' j y⟩⟩
theorem Rows8.get {W : World} {b : Nat} {v : Value} {n i : Nat} (h : Rows8 W b v n) (hi : i < n) : ∃ g c A' m c', v = .slice (some ⟨g, 0, none⟩) n c ∧ W.cell? ⟨g, i, none⟩ = some (.slice A' m c') ∧ m ≤ 1000000 ∧ Row8 W b (.slice A' m c') m := by
  obtain ⟨A, c, rfl, h⟩ := h
  obtain ⟨g, outer, rfl, hg, hc, hx⟩ := h (by omega)
  obtain ⟨A', m, c', k1, k0, k2⟩ := hx i hi
  exact ⟨g, c, A', m, c', rfl, by simp [World.cell?, hc, k1], k0, k2⟩
theorem Row8.at {W : World} {b : Nat} {A' : Option Addr} {m c' i : Nat} (h : Row8 W b (.slice A' m c') m) (hi : i < m) : ∃ g x cells, A' = some ⟨g, 0, none⟩ ∧ b ≤ g ∧ W.cell? ⟨g, i, none⟩ = some (.int .u8 x) ∧ W.frozen? ⟨g, i, none⟩ = false ∧ W.heap[g]? = some (.cells cells 5 (0, 0)) := by
  obtain ⟨A, c, e, h⟩ := h
  injection e with e1 e2 e3
  subst e1 e3
  obtain ⟨g, cells, rfl, hg, hc, hx⟩ := h (by omega)
  obtain ⟨x, hx⟩ := hx i hi
  exact ⟨g, x, cells, rfl, hg, by simp [World.cell?, hc, hx], by simp [World.frozen?, hc], hc⟩
theorem below_flag {b B : Nat} {w : World} {T : TypeId} (h : w.heap[B]? = some (.cells #[.bool true] T (0, 0))) : Below b w (w.setCell ⟨B, 0, none⟩ (.bool true)) := by
  refine ⟨rfl, rfl, rfl, by simp [World.setCell], fun k hk => ?_⟩
  by_cases e : k = B
  · subst e
    simp only [World.setCell, Array.getElem?_modify, if_true, h, Option.map_some]
    simp
  · exact Below.heap_setCell _ _ _ _ e
theorem rows8_same {W W' : World} {b : Nat} {v : Value} {n : Nat} (h : Rows8 W b v n) (hb : Below W.heap.size W W') : Rows8 W' b v n := by
  obtain ⟨A, c, rfl, h⟩ := h
  refine ⟨A, c, rfl, fun hp => ?_⟩
  obtain ⟨g, outer, e, hg, hc, hx⟩ := h hp
  refine ⟨g, outer, e, hg, (hb.block g ?_).trans hc, fun i hi => ?_⟩
  · rcases Nat.lt_or_ge g W.heap.size with q | q
    · exact q
    · rw [Array.getElem?_eq_none q] at hc; cases hc
  · obtain ⟨A', m, c', k1, k0, k2⟩ := hx i hi
    exact ⟨A', m, c', k1, k0, k2.step hb⟩
theorem ck_next (k : Nat) (h : k ≤ 1000000000) : wrap64 ((k : Int) + 1) = ((k + 1 : Nat) : Int) := by unfold wrap64; omega
set_option maxHeartbeats 8000000 in
set_option maxRecDepth 100000 in
theorem flip_calls (Al : Option Addr) (n cl : Nat) (b : Nat) (w : World) (HL : Aside0 (n < 1000)) (HR : Aside0 (Rows8 w b (.slice Al n cl) n)) :
    Calls Try.prog 10 #[.slice Al n cl] w fun e w' => e = .returned (.tuple #[]) ∧ Below b w w' := by
  have HB := Aside0.mk (Below.refl b w)
  go_enter Try.func10, Try.ntmps10
  go_wp2
  go_loopg [2] n (fun kq v9 w' => ∃ i : Nat, v9 = .int .i64 (i : Int) ∧ Aside0 (kq + i = n) ∧ Aside0 (Rows8 w' b (.slice Al n cl) n) ∧ Aside0 (Below b w w'))
  case atStart => exact ⟨0, rfl, ⟨by omega⟩, HR, HB⟩
  case round =>
    clear HR HB
    obtain ⟨i, rfl, HI, HR, HB⟩ := hrel
    by_cases hi : i < n
    · have p0 : (0 : Int) ≤ (i : Int) := Int.natCast_nonneg _
      have p1 : (i : Int) < (n : Int) := Int.ofNat_lt.2 hi
      have q1 : decide ((i : Int) < (n : Int)) = true := decide_eq_true p1
      have q4 := eq_true p0
      have q5 := eq_true p1
      have q6 := eq_true hi
      have hnx := ck_next i (by have := HL.out; omega)
      have Hi := Aside0.mk hi
      clear p0 p1
      cases gk with
      | zero => exact absurd HI.out (by have := Hi.out; omega)
      | succ k1 =>
      go_wp2
      go_loopg [3] 1000001 (fun kq v10 w' => ∃ k : Nat, v10 = .int .i64 (k : Int) ∧ Aside0 (kq + k = 1000001) ∧ Aside0 (Rows8 w' b (.slice Al n cl) n) ∧ Aside0 (Below b w w'))
      case atStart => exact ⟨0, rfl, ⟨by omega⟩, HR, HB⟩
      case round =>
        clear HR HB
        obtain ⟨k, rfl, HK, HR, HB⟩ := hrel
        obtain ⟨g, c, A', m, c', ev, hcell, hm, h8⟩ := HR.out.get Hi.out
        injection ev with ev1 ev2 ev3
        subst ev1 ev3
        by_cases hk : k < m
        · obtain ⟨g', x, cells, rfl, hg', hcx, hfx, hbx⟩ := h8.at hk
          have r1 : decide ((k : Int) < (m : Int)) = true := decide_eq_true (Int.ofNat_lt.2 hk)
          have r4 := eq_true (Int.natCast_nonneg k)
          have r5 := eq_true (Int.ofNat_lt.2 hk)
          have r6 := eq_true hk
          have hnk := ck_next k (by omega)
          have HGX := Aside0.mk hg'
          have HBX := Aside0.mk hbx
          have KM := Aside0.mk (show k < 1000001 from by omega)
          clear hk hm h8 hg' hbx
          cases gk with
          | zero => exact absurd HK.out (by have := KM.out; omega)
          | succ k2 =>
          go_wp2
          go_roundg k2
          case measure => omega
          case rel => exact ⟨k + 1, by first | rfl | rw [hnk], ⟨by have := HK.out; omega⟩, ⟨HR.out.set HBX.out k _⟩, ⟨HB.out.setCell (p := ⟨g', k, none⟩) HGX.out _⟩⟩
        · have r1 : decide ((k : Int) < (m : Int)) = false := decide_eq_false (by omega)
          have r2 : decide (k < m) = false := decide_eq_false hk
          have r3 := eq_false hk
          clear hk hm h8
          go_wp2
          go_roundg k1
          case measure => omega
          case rel => exact ⟨i + 1, by first | rfl | rw [hnx], ⟨by have := HI.out; omega⟩, HR, HB⟩
    · have q1 : decide ((i : Int) < (n : Int)) = false := decide_eq_false (by omega)
      have q2 : decide (i < n) = false := decide_eq_false hi
      have q3 := eq_false hi
      clear hi
      go_wp2
      go_end0
      exact ⟨rfl, HB.out⟩
set_option maxHeartbeats 4000000 in
set_option maxRecDepth 100000 in
theorem lists_calls (Al : Option Addr) (cl : Nat) (l : List (List Int)) (e0 : Int) (Am : Option Addr) (cm : Nat) (B B' b : Nat) (w : World) (Hl : Aside0 (Kd.C rowK w Al l.length l)) (Hm : Aside0 (Kd.C rowK w Am l.length l)) (HL : Aside0 (l.length < 1000)) (HB8 : Aside0 (∀ x ∈ l, areB x))
    (HF : Aside0 (w.heap[B]? = some (.cells #[.bool true] 4 (0, 0)))) (HG : Aside0 (w.heap[B']? = some (.cells #[.func (.func 10) #[] #[]] 25 (0, 0)))) (HR : Aside0 (Rows8 w b (.slice Al l.length cl) l.length)) (hbw : Aside0 (b ≤ w.heap.size ∧ B < b ∧ B' < b ∧ B ≠ B')) :
    Calls Try.prog 11 #[.slice Al l.length cl, .int .i64 e0, .slice Am l.length cm, .int .i64 e0, .pointer (some ⟨B, 0, none⟩), .pointer (some ⟨B', 0, none⟩)] w fun e w' => e = .returned (.tuple #[]) ∧ Below b w w' := by
  have hc := show w.cell? ⟨B, 0, none⟩ = some (.bool true) from by simp [World.cell?, HF.out]
  go_enter Try.func11, Try.ntmps11
  go_upto_region 1 with (go_at_call 12; with_reducible refine (refSame_calls Al cl l Am cm l _ Hl.out Hm.out (by have := HL.out; omega) HB8.out HB8.out).mono ?_; rintro e w1 ⟨rfl, hb⟩; have HF1 := Aside0.mk ((hb.block B (by have := hbw.out; omega)).trans HF.out); have HG1 := Aside0.mk ((hb.block B' (by have := hbw.out; omega)).trans HG.out); have HB := Aside0.mk hb; have hc1 := (show w1.cell? ⟨B, 0, none⟩ = some (.bool true) from (by simp [World.cell?, HF1.out])); have hz1 := (show w1.frozen? ⟨B, 0, none⟩ = false from (by simp [World.frozen?, HF1.out])); have hdd : decide (l = l) = true := decide_eq_true rfl; clear hb)
  clear hc hc1 hz1 hdd
  replace HR := Aside0.mk (show Rows8 (w1.setCell ⟨B, 0, none⟩ (.bool true)) b (.slice Al l.length cl) l.length from rows8_same (HR.out) (HB.out.trans ((below_flag (b := w.heap.size) HF1.out))))
  replace HB := Aside0.mk (show Below b w (w1.setCell ⟨B, 0, none⟩ (.bool true)) from (HB.out.mono hbw.out.1).trans (below_flag HF1.out))
  have hg := show (w1.setCell ⟨B, 0, none⟩ (.bool true)).cell? ⟨B', 0, none⟩ = some (.func (.func 10) #[] #[]) from by
    simp only [World.cell?, World.setCell, Array.getElem?_modify, if_neg (show ¬ B = B' from hbw.out.2.2.2)]; rw [HG1.out]; rfl
  generalize w1.setCell ⟨B, 0, none⟩ (.bool true) = w2 at HR HB hg ⊢
  go_wp2_with (go_at_call 10; with_reducible refine (flip_calls Al l.length cl b _ HL HR).mono ?_; rintro e w3 ⟨rfl, hb⟩; replace HB := Aside0.mk (HB.out.trans hb); clear hb)
  go_end0
  exact ⟨rfl, HB.out⟩
set_option maxHeartbeats 4000000 in
set_option maxRecDepth 100000 in
theorem asks_calls (p : Bool) (e0 : Int) (B b : Nat) (w : World) (HF : Aside0 (w.heap[B]? = some (.cells #[.bool true] 4 (0, 0)))) :
    Calls Try.prog 13 #[.bool p, .int .i64 e0, .bool p, .int .i64 e0, .pointer (some ⟨B, 0, none⟩)] w fun e w' => e = .returned (.tuple #[]) ∧ Below b w w' := by
  have hc := show w.cell? ⟨B, 0, none⟩ = some (.bool true) from by simp [World.cell?, HF.out]
  have hz := show w.frozen? ⟨B, 0, none⟩ = false from by simp [World.frozen?, HF.out]
  go_enter Try.func13, Try.ntmps13
  go_wp2
  go_end0
  exact ⟨rfl, below_flag HF.out⟩
end Go.Proofs.Ythgpmneplpdeiaa.Plain
end

section
namespace Go.Proofs.Ythgpmneplpdeiaa.PR
open Go.Proofs.Ythgpmneplpdeiaa.Hand Go.Proofs.Ythgpmneplpdeiaa.P Go.RowKit Go.Proofs.YthgpmneplpdeiaaW.PrintWords Go.Proofs.YthgpmneplpdeiaaW.PrintLast Go.Proofs.YthgpmneplpdeiaaW.PrintMore
attribute [local go_sem] max2_int min2_int max_two min_two max_three min_three max_four min_four   -- for this text's walks alone
set_option linter.unusedVariables false
set_option linter.unusedSimpArgs false
def errW : Option Int → Value
  | none => .nilIface
  | some c => .iface 0 (.int .i64 c)
theorem errW_none : errW none = .nilIface := rfl
theorem errW_some (c : Int) : errW (some c) = .iface 0 (.int .i64 c) := rfl
theorem info5 : (Try.prog.info? 5).map (fun i => (i.zero, i.size, i.bytes)) = some (some (.int .u8 0), 1, 1) := by kernel_rfl
theorem info23 : (Try.prog.info? 23).map (fun i => (i.zero, i.size, i.bytes)) = some (some (.slice none 0 0), 1, 24) := by kernel_rfl
-- the values' own types
def rd_L1 (xs : List (List Int)) (i : Int) : (List Int) := xs.getD i.toNat ([] : List Int)
theorem at_L1 {w : World} {A : Option Addr} {n : Nat} {xs : List (List Int)} (h : Kd.C (Kd.slice 5 (Kd.int .u8)) w A n xs) (i : Int) (h0 : 0 ≤ i) (h1 : i < n) : ∃ ad A0 c0, A = some ad ∧ w.cell? (ad.add i.toNat) = some (.slice A0 (rd_L1 xs i).length c0) ∧ (rd_L1 xs i).length ≤ c0 ∧ (Kd.int .u8).C w A0 (rd_L1 xs i).length (rd_L1 xs i) := by
  obtain ⟨ad, c, e, _, hK, hc0⟩ := Kd.C_get h ([] : List Int) i h0 h1
  have hc : ∀ j u, c[j]? = some u → w.cell? (ad.add (i.toNat * 1 + j)) = some u := hc0
  obtain ⟨A0, c0, rfl, l0, g0⟩ := hK
  exact ⟨ad, A0, c0, e, by have hq := hc 0 _ rfl; rwa [Nat.mul_one, Nat.add_zero] at hq, l0, g0⟩
end Go.Proofs.Ythgpmneplpdeiaa.PR
end
