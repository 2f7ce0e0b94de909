/- QSC, part 15: HMeet. -/
import Derived.Test.YthgpmneplpdeiaaQSC13
import Derived.Test.YthgpmneplpdeiaaQSC14

section
set_option linter.unusedVariables false
set_option linter.unusedSimpArgs false
namespace Go.Proofs.Ythgpmneplpdeiaa.Hand
open Go.Proofs.Ythgpmneplpdeiaa.Plain Go.Proofs.Ythgpmneplpdeiaa.GF Go.Proofs.Ythgpmneplpdeiaa.LA Go.RowKit Go.Proofs.YthgpmneplpdeiaaW.PrintWords Go.Proofs.YthgpmneplpdeiaaW.PrintLast Go.Proofs.YthgpmneplpdeiaaW.PrintMore
theorem isZero_all {l : List Int} : decide (leadN l < 0) = l.all (fun z => z == 0) := by
  by_cases h : ∀ x ∈ l, x = 0
  · rw [leadN_neg h, eq_comm]
    simpa using fun x hx => h x hx
  · have h2 : ∃ i, ∃ hi : i < l.length, l[i] ≠ 0 ∧ ∀ j (q : j < i), l[j] = 0 := by
      obtain ⟨x, hx⟩ := Classical.not_forall.1 h
      obtain ⟨hx, hn⟩ := Classical.not_imp.1 hx
      obtain ⟨i, hi, rfl⟩ := List.mem_iff_getElem.1 hx
      obtain ⟨m, hm, ⟨hml, hmn⟩, hlow⟩ := least (fun k => ∃ q : k < l.length, l[k] ≠ 0) i ⟨hi, hn⟩
      exact ⟨m, hml, hmn, fun j q => Classical.byContradiction fun e => hlow j q ⟨by omega, e⟩⟩
    obtain ⟨i, hi, h3, h4⟩ := h2
    rw [leadN_pos hi h3 h4, decide_eq_false (by omega), eq_comm, List.all_eq_false]
    exact ⟨_, List.getElem_mem hi, by simpa using h3⟩
set_option maxRecDepth 100000 in
theorem isZero_calls (A0 : Option Addr) (c0 : Nat) (l0 : List Int) (w : World) (hr0 : Kd.C (Kd.int .u8) w A0 l0.length l0) (hc0 : l0.length ≤ c0) (hl : l0.length < 9223372036854775807) :
    Calls Try.prog 36 #[.slice A0 l0.length c0] w fun e w' => e = .returned (.bool (l0.all fun z => z == 0)) ∧ Drawn0 w w' := by
  have HL := Aside0.mk (vector_Lead.calls A0 c0 l0 (leadN l0) w hr0 hc0 (by unfold vector_Lead.f; rw [if_pos hl]))
  have he := isZero_all (l := l0)
  clear hr0 hc0 hl
  generalize leadN l0 = z at *
  generalize (l0.all fun z => z == 0) = b at *
  go_enter Try.func36, Try.ntmps36
  go_wp2_with (go_at_call 35; with_reducible refine HL.out.mono ?_; rintro e w1 ⟨rfl, hd⟩)
  go_ret
  exact ⟨by rw [← he]; first | rfl | simp, hd⟩
def mis (l : List (List Int)) : Bool := l.any fun x => (x.length : Int) != ((rdR l 0).length : Int)
theorem fits_of {l : List (List Int)} (h : mis l = false) (hb : ∀ x ∈ l, areB x) : Fits (rdR l 0).length l := fun r hr => ⟨by have := List.any_eq_false.1 h r hr; simp at this; omega, hb r hr⟩
theorem reduce_mis {l : List (List Int)} (hl : l.length < 1000000000) (h : mis l = true) : matrix_Reduce.f l = some ([], 21) := by
  unfold mis at h
  unfold matrix_Reduce.f
  rw [if_pos hl, if_pos h]
theorem small_next (k : Nat) (h : k ≤ 1000000000) : wrap64 ((k : Int) + 1) = ((k + 1 : Nat) : Int) := by unfold wrap64; omega
theorem beside2 {a b : List (List Int)} (h : a.length + b.length < 1000000000) : span_beside.f [a, b] = matrix_Reduce.f (a ++ b) := by
  unfold span_beside.f slices_ConcatR.f
  rw [if_pos ⟨by simp, by simpa using h⟩]
  simp
theorem beside2_calls (A0 : Option Addr) (c0 : Nat) (a b : List (List Int)) (r1 : List (List Int)) (r2 : Int) (w : World) (hr0 : Kd.C rowsK w A0 2 [a, b]) (hc0 : 2 ≤ c0) (h : span_beside.f [a, b] = some (r1, r2)) :
    Calls Try.prog 33 #[.slice A0 2 c0] w fun e w' => ∃ v0_ : Value, e = .returned (.tuple #[v0_, .int .i64 r2]) ∧ Kd.S rowK 23 w' w.heap.size (fun _ => True) v0_ r1 ∧ Below w.heap.size w w' :=
  span_beside.calls A0 c0 [a, b] r1 r2 w hr0 hc0 h
set_option maxHeartbeats 4000000 in
set_option maxRecDepth 100000 in
theorem has_walk (A0 : Option Addr) (c0 : Nat) (l0 : List (List Int)) (A1 : Option Addr) (c1 : Nat) (l1 : List Int) (w : World) (Hl : Aside0 (Kd.C rowK w A0 l0.length l0)) (Cl : Aside0 (l0.length ≤ c0)) (Hv : Aside0 (Kd.C (Kd.int .u8) w A1 l1.length l1)) (Cv : Aside0 (l1.length ≤ c1))
    (n : Nat) (Rr B : List (List Int)) (P : Nat → Nat) (RF : Aside0 (Fits n Rr)) (VF : Aside0 (l1.length = n ∧ areB l1)) (K6 : Aside0 (n < 100000000 ∧ Rr.length < 1000000000)) (FB : Aside0 (span_beside.f [l0, [l1]] = some (B, 0))) (FR : Aside0 (matrix_Reduce.f l0 = some (Rr, 0))) (HPl : Aside0 (∀ i, i < Rr.length → P i < n ∧ leadN (Rr.getD i []) = ((P i : Nat) : Int))) :
    Calls Try.prog 14 #[.slice A0 l0.length c0, .slice A1 l1.length c1] w fun e w' => e = .returned (.tuple #[.bool ((leftL Rr l1 Rr.length).all fun z => z == 0), .int .i64 0]) ∧ Below w.heap.size w w' := by
  have HB := Aside0.mk (Below.refl w.heap.size w)
  go_enter Try.func14, Try.ntmps14
  go_upto_region 5 with (first
    | ((with_reducible refine gate_dst (N := 15) rfl ?_); (try (refine gate_guard (by rfl) ?_; dsimp only)); refine Kd.N_lit (rowK) _ 23 ?hg (N' := 15) ?hd (xs := [l1]) (inner := [.slice A1 l1.length c1]) (ok := fun _ => True) (okp := fun _ => True) ?hr (Reps.one (show Kd.FK (rowK) _ _ l1 [.slice A1 l1.length c1] from Kd.FK_slice_mk Cv.out (Kd.F_mono (Kd.C_F (Kd.heap_int _) Hv.out) (fun _ _ => trivial))) (Reps.none _ _)) (fun _ h => h) trivial (Below.refl _ _) (Nat.le_refl _) (by simp) ?_; (case hd => rfl); (case hg => rfl); (case hr => first | (go_simp; done) | (go_simp; rfl)); intro v_ w1 ho_ hb _ _; obtain ⟨AK, cK, rfl⟩ := Kd.N_slice ho_; have HK := Aside0.mk (show Kd.C (rowK) w1 AK 1 [l1] from (Kd.N_reads' ho_).2.2); have CK := Aside0.mk (show 1 ≤ cK from (Kd.N_reads' ho_).2.1); clear ho_; replace Hl := Aside0.mk (Kd.C_below Hl.out hb); replace Hv := Aside0.mk (Kd.C_below Hv.out hb); replace HB := Aside0.mk (HB.out.trans (hb.mono HB.out.size)); clear hb)
    | ((with_reducible refine gate_dst (N := 16) rfl ?_); (try (refine gate_guard (by rfl) ?_; dsimp only)); refine Kd.N_lit (rowsK) _ 22 ?hg (N' := 16) ?hd (xs := [l0, [l1]]) (inner := [.slice A0 l0.length c0, .slice AK 1 cK]) (ok := fun _ => True) (okp := fun _ => True) ?hr (Reps.one (show Kd.FK (rowsK) _ _ l0 [.slice A0 l0.length c0] from Kd.FK_slice_mk Cl.out (Kd.F_mono (Kd.C_F (Kd.heap_slice _ (Kd.heap_int _)) Hl.out) (fun _ _ => trivial))) (Reps.one (show Kd.FK (rowsK) _ _ [l1] [.slice AK 1 cK] from Kd.FK_slice_mk CK.out (Kd.F_mono (Kd.C_F (Kd.heap_slice _ (Kd.heap_int _)) HK.out) (fun _ _ => trivial))) (Reps.none _ _))) (fun _ h => h) trivial (Below.refl _ _) (Nat.le_refl _) (by simp) ?_; (case hd => rfl); (case hg => rfl); (case hr => first | (go_simp; done) | (go_simp; rfl)); intro v_ w2 ho_ hb _ _; obtain ⟨AM, cM, rfl⟩ := Kd.N_slice ho_; have HM := Aside0.mk (show Kd.C (rowsK) w2 AM 2 [l0, [l1]] from (Kd.N_reads' ho_).2.2); have CM := Aside0.mk (show 2 ≤ cM from (Kd.N_reads' ho_).2.1); clear ho_; replace Hl := Aside0.mk (Kd.C_below Hl.out hb); replace Hv := Aside0.mk (Kd.C_below Hv.out hb); replace HB := Aside0.mk (HB.out.trans (hb.mono HB.out.size)); clear hb)
    | (go_at_call 33; with_reducible refine (beside2_calls AM cM l0 ([l1]) B 0 _ HM.out CM.out FB.out).mono ?_; rintro e w3 ⟨v_, rfl, ho_, hb⟩; obtain ⟨AQ, cQ, rfl⟩ := Kd.S_slice ho_; have HQ := Aside0.mk (Kd.S_reads' ho_).2.2; have CQ := Aside0.mk (Kd.S_reads' ho_).2.1; clear ho_; replace Hl := Aside0.mk (Kd.C_below Hl.out hb); replace Hv := Aside0.mk (Kd.C_below Hv.out hb); replace HB := Aside0.mk (HB.out.trans (hb.mono HB.out.size)); clear hb)
    | (go_at_call 32; with_reducible refine (matrix_Reduce.calls A0 c0 l0 Rr 0 _ Hl.out Cl.out FR.out).mono ?_; rintro e w5 ⟨v_, rfl, ho_, hb⟩; obtain ⟨AR, cR, rfl⟩ := Kd.S_slice ho_; have HR := Aside0.mk (Kd.S_reads' ho_).2.2; have CR := Aside0.mk (Kd.S_reads' ho_).2.1; clear ho_; replace Hv := Aside0.mk (Kd.C_below Hv.out hb); replace HB := Aside0.mk (HB.out.trans (hb.mono HB.out.size)); clear hb))
  go_wp2
  go_loopg [30, 1] Rr.length (fun kq v30 v1 w' => ∃ (k : Nat) (A : Option Addr) (c : Nat) (l : List Int), v30 = .int .i64 (k : Int) ∧ v1 = .slice A l.length c ∧ Aside0 (kq + k = Rr.length) ∧ Aside0 (l = leftL Rr l1 k) ∧ Aside0 (l.length ≤ c) ∧ Aside0 (Kd.C (Kd.int .u8) w' A l.length l) ∧ Aside0 (Below w5.heap.size w5 w'))
  case atStart => exact ⟨0, A1, c1, l1, rfl, rfl, ⟨by omega⟩, ⟨rfl⟩, Cv, Hv, ⟨Below.refl _ _⟩⟩
  case round =>
    clear Hv Cv
    obtain ⟨k, Al, cl, l, rfl, rfl, HK, HL, HLC, HC, HW⟩ := hrel
    by_cases hk : k < Rr.length
    · have p0 : (0 : Int) ≤ (k : Int) := Int.natCast_nonneg _
      have p1 : (k : Int) < (Rr.length : Int) := Int.ofNat_lt.2 hk
      have q1 : decide ((k : Int) < (Rr.length : Int)) = true := decide_eq_true p1
      obtain ⟨bd, Bk, ck, e2, hx2, hl2, hi2⟩ := at_R HR.out (k : Int) p0 p1
      cases e2
      have er : rdR Rr (k : Int) = Rr.getD k [] := by unfold rdR; rw [Int.toNat_natCast]
      rw [er] at hx2 hl2 hi2
      rw [Int.toNat_natCast] at hx2
      replace hx2 := (HW.out.cell (World.block_lt_of_cell? _ _ hx2)).trans hx2
      have HY := Aside0.mk (Kd.C_below hi2 HW.out)
      have Hl2_ := Aside0.mk hl2
      have ry := getD_fits RF.out hk
      obtain ⟨b1, b2⟩ := HPl.out k hk
      have hll := leftL_fits RF.out VF.out k (Nat.le_of_lt hk)
      rw [← HL.out] at hll
      have HLead := Aside0.mk (show vector_Lead.f (Rr.getD k []) = some ((P k : Nat) : Int) from by
        unfold vector_Lead.f; rw [if_pos (by have := K6.out; omega), b2])
      have HNext := Aside0.mk (show addS l (Rr.getD k []) (rd l ((P k : Nat) : Int)) = leftL Rr l1 (k + 1) from by
        show _ = addS (leftL Rr l1 k) (Rr.getD k []) ((leftL Rr l1 k).getD (leadN (Rr.getD k [])).toNat 0)
        rw [b2, Int.toNat_natCast, ← HL.out]; unfold rd; rw [Int.toNat_natCast])
      have HAS := Aside0.mk (show vector_AddScaled.f l (Rr.getD k []) (rd l ((P k : Nat) : Int)) = some (addS l (Rr.getD k []) (rd l ((P k : Nat) : Int)), 0) from by
        unfold vector_AddScaled.f
        rw [if_pos (by rw [hll.1, ry.1]), if_pos ⟨by unfold vN; have := K6.out; omega, ry.2, rd_B hll.2 _⟩]; rfl)
      have hnk := small_next k (by have := K6.out; omega)
      have pl0 : (0 : Int) ≤ ((P k : Nat) : Int) := Int.natCast_nonneg _
      have pl1 : ((P k : Nat) : Int) < (l.length : Int) := by rw [hll.1]; exact Int.ofNat_lt.2 b1
      obtain ⟨adl, ei, hxl⟩ := Kd.at_int HC.out ((P k : Nat) : Int) pl0 pl1
      cases ei
      rw [Int.toNat_natCast] at hxl
      have HLen := Aside0.mk (show (addS l (Rr.getD k []) (rd l ((P k : Nat) : Int))).length = l.length from by unfold addS; rw [List.length_zipWith, hll.1, ry.1, Nat.min_self])
      have q4 := eq_true p0
      have q5 := eq_true p1
      have q6 := eq_true hk
      have q7 := eq_true pl0
      have q8 := eq_true pl1
      have q9 := eq_true (Int.ofNat_lt.1 pl1)
      have Hk := Aside0.mk hk
      have Hxl := Aside0.mk hxl
      clear p0 p1 hk er hi2 hl2 ry b1 b2 hll pl0 pl1 hxl
      generalize Rr.getD k [] = y at *
      generalize rd l ((P k : Nat) : Int) = xl at *
      cases gk with
      | zero => exact absurd HK.out (by have := Hk.out; omega)
      | succ k2 =>
      go_wp2_with (first
        | (go_at_call 35; with_reducible refine (vector_Lead.calls Bk ck y ((P k : Nat) : Int) _ HY.out Hl2_.out HLead.out).mono ?_; rintro e w6 ⟨rfl, hd⟩; have hb := drawn_below hd; clear hd hx2; replace HC := Aside0.mk (Kd.C_below HC.out hb); replace HY := Aside0.mk (Kd.C_below HY.out hb); replace HW := Aside0.mk (HW.out.trans (hb.mono HW.out.size)); have hxl := (hb.cell (World.block_lt_of_cell? _ _ Hxl.out)).trans Hxl.out; clear hb)
        | (go_at_call 34; with_reducible refine (vector_AddScaled.calls (some adl) cl l Bk ck y xl (addS l y xl) 0 _ HC.out HLC.out HY.out Hl2_.out HAS.out).mono ?_; rintro e w7 ⟨v0, rfl, hR, hb⟩; obtain ⟨An, cn, rfl⟩ := Kd.R_slice hR; have Hn := Aside0.mk (Kd.R_reads' hR).2.2; have Cn := Aside0.mk (Kd.R_reads' hR).2.1; replace HW := Aside0.mk (HW.out.trans (hb.mono HW.out.size)); clear hR hb))
      go_roundg k2
      case measure => omega
      case rel => exact ⟨k + 1, An, cn, _, by first | rfl | rw [hnk], by first | rfl | (rw [HLen.out]), ⟨by have := HK.out; omega⟩, HNext, Cn, Hn, HW⟩
    · have q1 : decide ((k : Int) < (Rr.length : Int)) = false := decide_eq_false (by omega)
      have q2 : decide (k < Rr.length) = false := decide_eq_false hk
      have q3 := eq_false hk
      have ek : k = Rr.length := by have := HK.out; omega
      have hll := leftL_fits RF.out VF.out k (by omega)
      rw [← HL.out] at hll
      have HLL := Aside0.mk (show l.length < 9223372036854775807 from by have := K6.out; omega)
      have HE := Aside0.mk (show leftL Rr l1 Rr.length = l from by rw [HL.out, ek])
      clear hk HK ek hll
      go_wp2_with (go_at_call 36; with_reducible refine (isZero_calls Al cl l _ HC.out HLC.out HLL.out).mono ?_; rintro e w6 ⟨rfl, hd⟩; have hb := drawn_below hd; replace HW := Aside0.mk (HW.out.trans (hb.mono HW.out.size)); clear hb hd)
      go_ret2
      exact ⟨by rw [HE.out]; rfl, HB.out.trans (HW.out.mono HB.out.size)⟩
set_option maxHeartbeats 2000000 in
set_option maxRecDepth 100000 in
theorem has_err (A0 : Option Addr) (c0 : Nat) (l0 : List (List Int)) (A1 : Option Addr) (c1 : Nat) (l1 : List Int) (w : World) (Hl : Aside0 (Kd.C rowK w A0 l0.length l0)) (Cl : Aside0 (l0.length ≤ c0)) (Hv : Aside0 (Kd.C (Kd.int .u8) w A1 l1.length l1)) (Cv : Aside0 (l1.length ≤ c1))
    (B : List (List Int)) (FB : Aside0 (span_beside.f [l0, [l1]] = some (B, 21))) :
    Calls Try.prog 14 #[.slice A0 l0.length c0, .slice A1 l1.length c1] w fun e w' => e = .returned (.tuple #[.bool false, .int .i64 21]) ∧ Below w.heap.size w w' := by
  have HB := Aside0.mk (Below.refl w.heap.size w)
  go_enter Try.func14, Try.ntmps14
  go_wp2_with (first
    | ((with_reducible refine gate_dst (N := 15) rfl ?_); (try (refine gate_guard (by rfl) ?_; dsimp only)); refine Kd.N_lit (rowK) _ 23 ?hg (N' := 15) ?hd (xs := [l1]) (inner := [.slice A1 l1.length c1]) (ok := fun _ => True) (okp := fun _ => True) ?hr (Reps.one (show Kd.FK (rowK) _ _ l1 [.slice A1 l1.length c1] from Kd.FK_slice_mk Cv.out (Kd.F_mono (Kd.C_F (Kd.heap_int _) Hv.out) (fun _ _ => trivial))) (Reps.none _ _)) (fun _ h => h) trivial (Below.refl _ _) (Nat.le_refl _) (by simp) ?_; (case hd => rfl); (case hg => rfl); (case hr => first | (go_simp; done) | (go_simp; rfl)); intro v_ w1 ho_ hb _ _; obtain ⟨AK, cK, rfl⟩ := Kd.N_slice ho_; have HK := Aside0.mk (show Kd.C (rowK) w1 AK 1 [l1] from (Kd.N_reads' ho_).2.2); have CK := Aside0.mk (show 1 ≤ cK from (Kd.N_reads' ho_).2.1); clear ho_; replace Hl := Aside0.mk (Kd.C_below Hl.out hb); replace Hv := Aside0.mk (Kd.C_below Hv.out hb); replace HB := Aside0.mk (HB.out.trans (hb.mono HB.out.size)); clear hb)
    | ((with_reducible refine gate_dst (N := 16) rfl ?_); (try (refine gate_guard (by rfl) ?_; dsimp only)); refine Kd.N_lit (rowsK) _ 22 ?hg (N' := 16) ?hd (xs := [l0, [l1]]) (inner := [.slice A0 l0.length c0, .slice AK 1 cK]) (ok := fun _ => True) (okp := fun _ => True) ?hr (Reps.one (show Kd.FK (rowsK) _ _ l0 [.slice A0 l0.length c0] from Kd.FK_slice_mk Cl.out (Kd.F_mono (Kd.C_F (Kd.heap_slice _ (Kd.heap_int _)) Hl.out) (fun _ _ => trivial))) (Reps.one (show Kd.FK (rowsK) _ _ [l1] [.slice AK 1 cK] from Kd.FK_slice_mk CK.out (Kd.F_mono (Kd.C_F (Kd.heap_slice _ (Kd.heap_int _)) HK.out) (fun _ _ => trivial))) (Reps.none _ _))) (fun _ h => h) trivial (Below.refl _ _) (Nat.le_refl _) (by simp) ?_; (case hd => rfl); (case hg => rfl); (case hr => first | (go_simp; done) | (go_simp; rfl)); intro v_ w2 ho_ hb _ _; obtain ⟨AM, cM, rfl⟩ := Kd.N_slice ho_; have HM := Aside0.mk (show Kd.C (rowsK) w2 AM 2 [l0, [l1]] from (Kd.N_reads' ho_).2.2); have CM := Aside0.mk (show 2 ≤ cM from (Kd.N_reads' ho_).2.1); clear ho_; replace Hl := Aside0.mk (Kd.C_below Hl.out hb); replace Hv := Aside0.mk (Kd.C_below Hv.out hb); replace HB := Aside0.mk (HB.out.trans (hb.mono HB.out.size)); clear hb)
    | (go_at_call 33; with_reducible refine (beside2_calls AM cM l0 ([l1]) B 21 _ HM.out CM.out FB.out).mono ?_; rintro e w3 ⟨v_, rfl, ho_, hb⟩; obtain ⟨AQ, cQ, rfl⟩ := Kd.S_slice ho_; have HQ := Aside0.mk (Kd.S_reads' ho_).2.2; have CQ := Aside0.mk (Kd.S_reads' ho_).2.1; clear ho_; replace Hl := Aside0.mk (Kd.C_below Hl.out hb); replace Hv := Aside0.mk (Kd.C_below Hv.out hb); replace HB := Aside0.mk (HB.out.trans (hb.mono HB.out.size)); clear hb))
  go_ret2
  exact ⟨rfl, HB.out⟩
def span_Has.f (l0 : List (List Int)) (l1 : List Int) : Option (Bool × Int) :=
  if l0.length < 100000000 ∧ l1.length < 100000000 ∧ areB l1 ∧ ∀ x ∈ l0, areB x then (if mis (l0 ++ [l1]) = true then some (false, 21) else some (hasB l0 l1, 0)) else none
theorem fits_left {a b : List (List Int)} {n : Nat} (h : Fits n (a ++ b)) : Fits n a := fun r hr => h r (List.mem_append_left _ hr)
theorem fits_right {a b : List (List Int)} {n : Nat} (h : Fits n (a ++ b)) : Fits n b := fun r hr => h r (List.mem_append_right _ hr)
theorem lead_at {n : Nat} {l : List (List Int)} (hl : Fits n l) : ∃ P : Nat → Nat, Fits n (redRows l n) ∧ (redRows l n).length ≤ l.length ∧ ∀ i, i < (redRows l n).length → P i < n ∧ leadN ((redRows l n).getD i []) = ((P i : Nat) : Int) := by
  obtain ⟨p, h1, h2, h3, h4⟩ := redRows_spec hl
  exact ⟨fun i => p.getD i 0, h3, h4, fun i hi => ⟨(red_lead h3 h1 hi).1, (red_lead h3 h1 hi).2.1⟩⟩
theorem span_Has.calls (A0 : Option Addr) (c0 : Nat) (l0 : List (List Int)) (A1 : Option Addr) (c1 : Nat) (l1 : List Int) (r1 : Bool) (r2 : Int) (w : World) (hr0 : Kd.C (Kd.slice 5 (Kd.int .u8)) w A0 l0.length l0) (hc0 : l0.length ≤ c0) (hr1 : Kd.C (Kd.int .u8) w A1 l1.length l1) (hc1 : l1.length ≤ c1) (h : span_Has.f l0 l1 = some (r1, r2)) :
    Calls Try.prog 14 #[.slice A0 l0.length c0, .slice A1 l1.length c1] w fun e w' => e = .returned (.tuple #[.bool r1, .int .i64 r2]) ∧ Below w.heap.size w w' := by
  unfold span_Has.f at h
  by_cases hb : l0.length < 100000000 ∧ l1.length < 100000000 ∧ areB l1 ∧ ∀ x ∈ l0, areB x
  · rw [if_pos hb] at h
    have e2 := beside2 (a := l0) (b := [l1]) (by simp; omega)
    by_cases hm : mis (l0 ++ [l1]) = true
    · rw [if_pos hm] at h
      simp only [Option.some.injEq, Prod.mk.injEq] at h
      obtain ⟨rfl, rfl⟩ := h
      exact has_err A0 c0 l0 A1 c1 l1 w ⟨hr0⟩ ⟨hc0⟩ ⟨hr1⟩ ⟨hc1⟩ [] ⟨by rw [e2]; exact reduce_mis (by simp; omega) hm⟩
    · rw [if_neg hm] at h
      simp only [Option.some.injEq, Prod.mk.injEq] at h
      obtain ⟨rfl, rfl⟩ := h
      have hF := fits_of (Bool.eq_false_iff.2 hm) (fun x hx => (List.mem_append.1 hx).elim (hb.2.2.2 x) (fun q => by rw [List.mem_singleton.1 q]; exact hb.2.2.1))
      have hv := fits_right hF l1 (List.mem_singleton.2 rfl)
      rw [← hv.1] at hF
      have hl := fits_left hF
      obtain ⟨P, k1, k2, k3⟩ := lead_at hl
      exact has_walk A0 c0 l0 A1 c1 l1 w ⟨hr0⟩ ⟨hc0⟩ ⟨hr1⟩ ⟨hc1⟩ l1.length (redRows l0 l1.length) _ P ⟨k1⟩ ⟨rfl, hv.2⟩ ⟨hb.2.1, by omega⟩ ⟨by rw [e2]; exact reduce_f hF (by simp; omega) (by omega)⟩ ⟨reduce_f hl (by omega) (by omega)⟩ ⟨k3⟩
  · rw [if_neg hb] at h; cases h
theorem ok_out1 : FnOk Try.prog 58 := ⟨⟨_, Try.func58, by rfl, rfl⟩⟩
set_option maxHeartbeats 2000000 in
set_option maxRecDepth 100000 in
theorem out1_fn (A : Option Addr) (c : Nat) (x : List Int) (B : Nat) (AR : Option Addr) (cR : Nat) (Rr : List (List Int)) (b : Bool) (w : World) (hcell : w.cell? ⟨B, 0, none⟩ = some (.slice AR Rr.length cR)) (HR : Aside0 (Kd.C rowK w AR Rr.length Rr)) (CR : Aside0 (Rr.length ≤ cR)) (Hx : Aside0 (Kd.C (Kd.int .u8) w A x.length x)) (Cx : Aside0 (x.length ≤ c)) (HF : Aside0 (span_Has.f Rr x = some (b, 0))) :
    Calls Try.prog 58 #[.slice A x.length c, .pointer (some ⟨B, 0, none⟩)] w fun e w' => e = .returned (.bool (!b)) ∧ Below w.heap.size w w' := by
  go_enter Try.func58, Try.ntmps58
  go_wp2_with (go_at_call 14; with_reducible refine (span_Has.calls AR cR Rr A c x b 0 _ HR.out CR.out Hx.out Cx.out HF.out).mono ?_; rintro e w1 ⟨rfl, hb⟩)
  go_ret
  exact ⟨rfl, hb⟩
def outN (R rows : List (List Int)) : Int := if rows.findIdx (fun v => !hasB R v) < rows.length then (rows.findIdx (fun v => !hasB R v) : Int) else -1
set_option maxHeartbeats 2000000 in
set_option maxRecDepth 100000 in
theorem out_walk (A0 : Option Addr) (c0 : Nat) (l0 : List (List Int)) (A1 : Option Addr) (c1 : Nat) (l1 : List (List Int)) (w : World) (Hl : Aside0 (Kd.C rowK w A0 l0.length l0)) (Cl : Aside0 (l0.length ≤ c0)) (Hv : Aside0 (Kd.C rowK w A1 l1.length l1)) (Cv : Aside0 (l1.length ≤ c1))
    (Rr B : List (List Int)) (K6 : Aside0 (l0.length < 100000000)) (FB : Aside0 (span_beside.f [l0, l1] = some (B, 0))) (FR : Aside0 (matrix_Reduce.f l1 = some (Rr, 0))) (FH : Aside0 (∀ x ∈ l0, span_Has.f Rr x = some (hasB Rr x, 0))) :
    Calls Try.prog 39 #[.slice A0 l0.length c0, .slice A1 l1.length c1] w fun e w' => e = .returned (.tuple #[.int .i64 (outN Rr l0), .int .i64 0]) ∧ Below w.heap.size w w' := by
  have HB := Aside0.mk (Below.refl w.heap.size w)
  have HE := Aside0.mk (fun (w1 : World) (Bk : Nat) (AR : Option Addr) (cR : Nat) (hB : Bk < w1.heap.size) (hcell : w1.cell? ⟨Bk, 0, none⟩ = some (.slice AR Rr.length cR)) (hR : Kd.C rowK w1 AR Rr.length Rr) (cr : Rr.length ≤ cR) (a : Kd.C rowK w1 A0 l0.length l0) =>
    slices_IndexRows.calls (fun x => (span_Has.f Rr x).bind fun r => if r.2 = 0 then some (!r.1) else none) (l0.length + 1) A0 c0 l0 58 #[.pointer (some ⟨Bk, 0, none⟩)] ok_out1 (outN Rr l0) w1
      (fun A c x r W hA hc hr hbW => by
        obtain ⟨b, h1, h2⟩ := Option.bind_eq_some_iff.1 hr
        by_cases hz : b.2 = 0
        · rw [if_pos hz] at h2
          obtain rfl := Option.some.inj h2
          have := out1_fn A c x Bk AR cR Rr b.1 W ((hbW.cell (p := ⟨Bk, 0, none⟩) hB).trans hcell) ⟨Kd.C_below hR hbW⟩ ⟨cr⟩ ⟨hA⟩ ⟨hc⟩ ⟨by rw [h1, ← hz]⟩
          simpa using this
        · rw [if_neg hz] at h2; cases h2) a Cl.out (idxR_f _ (fun v => !hasB Rr v) l0 (fun x hx => by rw [FH.out x hx]; rfl) (by have := K6.out; omega)))
  go_enter Try.func39, Try.ntmps39
  go_wp2_with (first
    | ((with_reducible refine gate_dst (N := 13) rfl ?_); (try (refine gate_guard (by rfl) ?_; dsimp only)); refine Kd.N_lit (rowsK) _ 22 ?hg (N' := 13) ?hd (xs := [l0, l1]) (inner := [.slice A0 l0.length c0, .slice A1 l1.length c1]) (ok := fun _ => True) (okp := fun _ => True) ?hr (Reps.one (show Kd.FK (rowsK) _ _ l0 [.slice A0 l0.length c0] from Kd.FK_slice_mk Cl.out (Kd.F_mono (Kd.C_F (Kd.heap_slice _ (Kd.heap_int _)) Hl.out) (fun _ _ => trivial))) (Reps.one (show Kd.FK (rowsK) _ _ l1 [.slice A1 l1.length c1] from Kd.FK_slice_mk Cv.out (Kd.F_mono (Kd.C_F (Kd.heap_slice _ (Kd.heap_int _)) Hv.out) (fun _ _ => trivial))) (Reps.none _ _))) (fun _ h => h) trivial (Below.refl _ _) (Nat.le_refl _) (by simp) ?_; (case hd => rfl); (case hg => rfl); (case hr => first | (go_simp; done) | (go_simp; rfl)); intro v_ w2 ho_ hb _ _; obtain ⟨AM, cM, rfl⟩ := Kd.N_slice ho_; have HM := Aside0.mk (show Kd.C (rowsK) w2 AM 2 [l0, l1] from (Kd.N_reads' ho_).2.2); have CM := Aside0.mk (show 2 ≤ cM from (Kd.N_reads' ho_).2.1); clear ho_; replace Hl := Aside0.mk (Kd.C_below Hl.out hb); replace Hv := Aside0.mk (Kd.C_below Hv.out hb); replace HB := Aside0.mk (HB.out.trans (hb.mono HB.out.size)); clear hb)
    | (go_at_call 33; with_reducible refine (beside2_calls AM cM l0 (l1) B 0 _ HM.out CM.out FB.out).mono ?_; rintro e w3 ⟨v_, rfl, ho_, hb⟩; obtain ⟨AQ, cQ, rfl⟩ := Kd.S_slice ho_; have HQ := Aside0.mk (Kd.S_reads' ho_).2.2; have CQ := Aside0.mk (Kd.S_reads' ho_).2.1; clear ho_; replace Hl := Aside0.mk (Kd.C_below Hl.out hb); replace Hv := Aside0.mk (Kd.C_below Hv.out hb); replace HB := Aside0.mk (HB.out.trans (hb.mono HB.out.size)); clear hb)
    | (go_at_call 32; with_reducible refine (matrix_Reduce.calls A1 c1 l1 Rr 0 _ Hv.out Cv.out FR.out).mono ?_; rintro e w5 ⟨v_, rfl, ho_, hb⟩; obtain ⟨AR, cR, rfl⟩ := Kd.S_slice ho_; have HR := Aside0.mk (Kd.S_reads' ho_).2.2; have CR := Aside0.mk (Kd.S_reads' ho_).2.1; clear ho_; replace Hl := Aside0.mk (Kd.C_below Hl.out hb); replace HB := Aside0.mk (HB.out.trans (hb.mono HB.out.size)); clear hb)
    | (go_at_call 57; with_reducible refine (HE.out _ w5.heap.size AR cR (by simp) (by simp) (Kd.C_alloc HR.out _) CR.out (Kd.C_alloc Hl.out _)).mono ?_; rintro e w6 ⟨rfl, hb⟩; replace HB := Aside0.mk (HB.out.trans (box_lower rfl hb |>.mono HB.out.size)); clear hb))
  go_ret2
  exact ⟨rfl, HB.out⟩
set_option maxHeartbeats 2000000 in
set_option maxRecDepth 100000 in
theorem out_err (A0 : Option Addr) (c0 : Nat) (l0 : List (List Int)) (A1 : Option Addr) (c1 : Nat) (l1 : List (List Int)) (w : World) (Hl : Aside0 (Kd.C rowK w A0 l0.length l0)) (Cl : Aside0 (l0.length ≤ c0)) (Hv : Aside0 (Kd.C rowK w A1 l1.length l1)) (Cv : Aside0 (l1.length ≤ c1))
    (B : List (List Int)) (FB : Aside0 (span_beside.f [l0, l1] = some (B, 21))) :
    Calls Try.prog 39 #[.slice A0 l0.length c0, .slice A1 l1.length c1] w fun e w' => e = .returned (.tuple #[.int .i64 (-1), .int .i64 21]) ∧ Below w.heap.size w w' := by
  have HB := Aside0.mk (Below.refl w.heap.size w)
  go_enter Try.func39, Try.ntmps39
  go_wp2_with (first
    | ((with_reducible refine gate_dst (N := 13) rfl ?_); (try (refine gate_guard (by rfl) ?_; dsimp only)); refine Kd.N_lit (rowsK) _ 22 ?hg (N' := 13) ?hd (xs := [l0, l1]) (inner := [.slice A0 l0.length c0, .slice A1 l1.length c1]) (ok := fun _ => True) (okp := fun _ => True) ?hr (Reps.one (show Kd.FK (rowsK) _ _ l0 [.slice A0 l0.length c0] from Kd.FK_slice_mk Cl.out (Kd.F_mono (Kd.C_F (Kd.heap_slice _ (Kd.heap_int _)) Hl.out) (fun _ _ => trivial))) (Reps.one (show Kd.FK (rowsK) _ _ l1 [.slice A1 l1.length c1] from Kd.FK_slice_mk Cv.out (Kd.F_mono (Kd.C_F (Kd.heap_slice _ (Kd.heap_int _)) Hv.out) (fun _ _ => trivial))) (Reps.none _ _))) (fun _ h => h) trivial (Below.refl _ _) (Nat.le_refl _) (by simp) ?_; (case hd => rfl); (case hg => rfl); (case hr => first | (go_simp; done) | (go_simp; rfl)); intro v_ w2 ho_ hb _ _; obtain ⟨AM, cM, rfl⟩ := Kd.N_slice ho_; have HM := Aside0.mk (show Kd.C (rowsK) w2 AM 2 [l0, l1] from (Kd.N_reads' ho_).2.2); have CM := Aside0.mk (show 2 ≤ cM from (Kd.N_reads' ho_).2.1); clear ho_; replace Hl := Aside0.mk (Kd.C_below Hl.out hb); replace Hv := Aside0.mk (Kd.C_below Hv.out hb); replace HB := Aside0.mk (HB.out.trans (hb.mono HB.out.size)); clear hb)
    | (go_at_call 33; with_reducible refine (beside2_calls AM cM l0 (l1) B 21 _ HM.out CM.out FB.out).mono ?_; rintro e w3 ⟨v_, rfl, ho_, hb⟩; obtain ⟨AQ, cQ, rfl⟩ := Kd.S_slice ho_; have HQ := Aside0.mk (Kd.S_reads' ho_).2.2; have CQ := Aside0.mk (Kd.S_reads' ho_).2.1; clear ho_; replace Hl := Aside0.mk (Kd.C_below Hl.out hb); replace Hv := Aside0.mk (Kd.C_below Hv.out hb); replace HB := Aside0.mk (HB.out.trans (hb.mono HB.out.size)); clear hb))
  go_ret2
  exact ⟨rfl, HB.out⟩
def wid (l0 l1 : List (List Int)) : Nat := (rdR (l0 ++ l1) 0).length
def okB (l0 l1 : List (List Int)) : Bool := decide (l0.length < 100000000) && decide (l1.length < 100000000) && decide (wid l0 l1 < 10000000) && l0.all (fun x => decide (areB x)) && l1.all (fun x => decide (areB x))
theorem okB_iff {l0 l1 : List (List Int)} : okB l0 l1 = true ↔ l0.length < 100000000 ∧ l1.length < 100000000 ∧ wid l0 l1 < 10000000 ∧ (∀ x ∈ l0, areB x) ∧ (∀ x ∈ l1, areB x) := by
  simp [okB, and_assoc]
def span_out.f (l0 l1 : List (List Int)) : Option (Int × Int) :=
  if okB l0 l1 = true then (if mis (l0 ++ l1) = true then some (-1, 21) else some (outN (redRows l1 (wid l0 l1)) l0, 0)) else none
theorem fits2 {l0 l1 : List (List Int)} (hb : okB l0 l1 = true) (hm : ¬ mis (l0 ++ l1) = true) : Fits (wid l0 l1) (l0 ++ l1) := by
  have h := okB_iff.1 hb
  exact fits_of (Bool.eq_false_iff.2 hm) (fun x hx => (List.mem_append.1 hx).elim (h.2.2.2.1 x) (h.2.2.2.2 x))
theorem fits_mis {l : List (List Int)} {n : Nat} (h : Fits n l) : mis l = false := any_len h
theorem has_f {n : Nat} {l : List (List Int)} (hl : Fits n l) {v : List Int} (hv : v.length = n ∧ areB v) (hn : n < 100000000) (hk : l.length < 100000000) : span_Has.f l v = some (hasB l v, 0) := by
  unfold span_Has.f
  rw [if_pos ⟨hk, by omega, hv.2, fun x hx => (hl x hx).2⟩, if_neg]
  rw [fits_mis (n := n) (fun r hr => (List.mem_append.1 hr).elim (hl r) (fun q => by rw [List.mem_singleton.1 q]; exact hv))]
  decide
theorem span_out.calls (A0 : Option Addr) (c0 : Nat) (l0 : List (List Int)) (A1 : Option Addr) (c1 : Nat) (l1 : List (List Int)) (r1 : Int) (r2 : Int) (w : World) (hr0 : Kd.C (Kd.slice 5 (Kd.int .u8)) w A0 l0.length l0) (hc0 : l0.length ≤ c0) (hr1 : Kd.C (Kd.slice 5 (Kd.int .u8)) w A1 l1.length l1) (hc1 : l1.length ≤ c1) (h : span_out.f l0 l1 = some (r1, r2)) :
    Calls Try.prog 39 #[.slice A0 l0.length c0, .slice A1 l1.length c1] w fun e w' => e = .returned (.tuple #[.int .i64 r1, .int .i64 r2]) ∧ Below w.heap.size w w' := by
  unfold span_out.f at h
  by_cases hb : okB l0 l1 = true
  · rw [if_pos hb] at h
    have hk := okB_iff.1 hb
    have e2 := beside2 (a := l0) (b := l1) (by omega)
    by_cases hm : mis (l0 ++ l1) = true
    · rw [if_pos hm] at h
      simp only [Option.some.injEq, Prod.mk.injEq] at h
      obtain ⟨rfl, rfl⟩ := h
      exact out_err A0 c0 l0 A1 c1 l1 w ⟨hr0⟩ ⟨hc0⟩ ⟨hr1⟩ ⟨hc1⟩ [] ⟨by rw [e2]; exact reduce_mis (by simp; omega) hm⟩
    · rw [if_neg hm] at h
      simp only [Option.some.injEq, Prod.mk.injEq] at h
      obtain ⟨rfl, rfl⟩ := h
      have hF := fits2 hb hm
      have hl := fits_right hF
      obtain ⟨P, k1, k2, k3⟩ := lead_at hl
      exact out_walk A0 c0 l0 A1 c1 l1 w ⟨hr0⟩ ⟨hc0⟩ ⟨hr1⟩ ⟨hc1⟩ _ _ ⟨hk.1⟩ ⟨by rw [e2]; exact reduce_f hF (by simp; omega) (by omega)⟩ ⟨reduce_f hl (by omega) (by omega)⟩ ⟨fun x hx => has_f k1 (fits_left hF x hx) (by omega) (by omega)⟩
  · rw [if_neg hb] at h; cases h
def span_Sum.f (l0 l1 : List (List Int)) : Option (List (List Int) × Int) := if l0.length < 100000000 ∧ l1.length < 100000000 then matrix_Reduce.f (l0 ++ l1) else none
set_option maxHeartbeats 2000000 in
set_option maxRecDepth 100000 in
theorem span_Sum.calls (A0 : Option Addr) (c0 : Nat) (l0 : List (List Int)) (A1 : Option Addr) (c1 : Nat) (l1 : List (List Int)) (r1 : List (List Int)) (r2 : Int) (w : World) (hr0 : Kd.C (Kd.slice 5 (Kd.int .u8)) w A0 l0.length l0) (hc0 : l0.length ≤ c0) (hr1 : Kd.C (Kd.slice 5 (Kd.int .u8)) w A1 l1.length l1) (hc1 : l1.length ≤ c1) (h : span_Sum.f l0 l1 = some (r1, r2)) :
    Calls Try.prog 20 #[.slice A0 l0.length c0, .slice A1 l1.length c1] w fun e w' => ∃ v0_ : Value, e = .returned (.tuple #[v0_, .int .i64 r2]) ∧ Kd.S (Kd.slice 5 (Kd.int .u8)) 23 w' w.heap.size (fun _ => True) v0_ r1 ∧ Below w.heap.size w w' := by
  unfold span_Sum.f at h
  by_cases hb : l0.length < 100000000 ∧ l1.length < 100000000
  · rw [if_pos hb, ← beside2 (by omega)] at h
    have FB := Aside0.mk h
    have Hl := Aside0.mk hr0
    have Hv := Aside0.mk hr1
    have Cl := Aside0.mk hc0
    have Cv := Aside0.mk hc1
    clear h hr0 hr1 hc0 hc1
    have HB := Aside0.mk (Below.refl w.heap.size w)
    go_enter Try.func20, Try.ntmps20
    go_wp2_with (first
    | ((with_reducible refine gate_dst (N := 8) rfl ?_); (try (refine gate_guard (by rfl) ?_; dsimp only)); refine Kd.N_lit (rowsK) _ 22 ?hg (N' := 8) ?hd (xs := [l0, l1]) (inner := [.slice A0 l0.length c0, .slice A1 l1.length c1]) (ok := fun _ => True) (okp := fun _ => True) ?hr (Reps.one (show Kd.FK (rowsK) _ _ l0 [.slice A0 l0.length c0] from Kd.FK_slice_mk Cl.out (Kd.F_mono (Kd.C_F (Kd.heap_slice _ (Kd.heap_int _)) Hl.out) (fun _ _ => trivial))) (Reps.one (show Kd.FK (rowsK) _ _ l1 [.slice A1 l1.length c1] from Kd.FK_slice_mk Cv.out (Kd.F_mono (Kd.C_F (Kd.heap_slice _ (Kd.heap_int _)) Hv.out) (fun _ _ => trivial))) (Reps.none _ _))) (fun _ h => h) trivial (Below.refl _ _) (Nat.le_refl _) (by simp) ?_; (case hd => rfl); (case hg => rfl); (case hr => first | (go_simp; done) | (go_simp; rfl)); intro v_ w2 ho_ hb _ _; obtain ⟨AM, cM, rfl⟩ := Kd.N_slice ho_; have HM := Aside0.mk (show Kd.C (rowsK) w2 AM 2 [l0, l1] from (Kd.N_reads' ho_).2.2); have CM := Aside0.mk (show 2 ≤ cM from (Kd.N_reads' ho_).2.1); clear ho_; replace HB := Aside0.mk (HB.out.trans (hb.mono HB.out.size)); clear hb)
    | (go_at_call 33; with_reducible refine (beside2_calls AM cM l0 l1 r1 r2 _ HM.out CM.out FB.out).mono ?_; rintro e w3 ⟨v_, rfl, ho_, hb⟩; have HO := Aside0.mk (Kd.S_lower ho_ HB.out.size); replace HB := Aside0.mk (HB.out.trans (hb.mono HB.out.size)); clear ho_ hb))
    go_ret2
    exact ⟨_, rfl, HO.out, HB.out⟩
  · rw [if_neg hb] at h; cases h
end Go.Proofs.Ythgpmneplpdeiaa.Hand
set_option linter.unusedVariables false
set_option linter.unusedSimpArgs false
namespace Go.Proofs.Ythgpmneplpdeiaa.Hand
open Go.Proofs.Ythgpmneplpdeiaa.Plain Go.Proofs.Ythgpmneplpdeiaa.GF Go.Proofs.Ythgpmneplpdeiaa.LA Go.RowKit Go.Proofs.YthgpmneplpdeiaaW.PrintWords Go.Proofs.YthgpmneplpdeiaaW.PrintLast Go.Proofs.YthgpmneplpdeiaaW.PrintMore
theorem concat2_calls (A0 : Option Addr) (c0 : Nat) (a b r : List Int) (w : World) (hr0 : Kd.C rowK w A0 2 [a, b]) (hc0 : 2 ≤ c0) (h : slices_Concat_byte_byte.f [a, b] = some r) :
    Calls Try.prog 41 #[.slice A0 2 c0] w fun e w' => ∃ v : Value, e = .returned v ∧ Kd.R (Kd.int .u8) 5 w' w.heap.size (fun _ => True) v r ∧ Below w.heap.size w w' :=
  slices_Concat_byte_byte.calls A0 c0 [a, b] r w hr0 hc0 h
theorem concat2_f (a b : List Int) (h : a.length + b.length < 100000000000) : slices_Concat_byte_byte.f [a, b] = some (a ++ b) := by
  unfold slices_Concat_byte_byte.f
  rw [if_pos ⟨by simp, by simpa using h⟩]
  simp
def twice (r : List Int) : List Int := r ++ r
def half0 (r : List Int) : List Int := r ++ List.replicate r.length 0
def wideL (l0 l1 : List (List Int)) : List (List Int) := l0.map twice ++ l1.map half0
def zeroB (r : List Int) (n : Nat) : Bool := (r.take n).all fun z => z == 0
def halves (R : List (List Int)) (n : Nat) : List (List Int) := (R.filter fun r => zeroB r n).map fun r => r.drop n
theorem map_succ (f : List Int → List Int) (l : List (List Int)) (i : Nat) (h : i < l.length) : (l.take (i + 1)).map f = (l.take i).map f ++ [f (l.getD i [])] := by
  rw [List.take_add_one, List.getElem?_eq_getElem h, Option.toList_some, List.map_append, List.getD_eq_getElem?_getD, List.getElem?_eq_getElem h]; rfl
theorem halves_succ (l : List (List Int)) (n i : Nat) (h : i < l.length) : halves (l.take (i + 1)) n = if zeroB (l.getD i []) n = true then halves (l.take i) n ++ [(l.getD i []).drop n] else halves (l.take i) n := by
  unfold halves
  rw [List.take_add_one, List.getElem?_eq_getElem h, Option.toList_some, List.filter_append, List.map_append, List.getD_eq_getElem?_getD, List.getElem?_eq_getElem h, Option.getD_some]
  by_cases c : zeroB l[i] n = true
  · rw [if_pos c]; simp [c]
  · rw [if_neg c]; simp [c]
theorem lenN (i m : Nat) (l : List (List Int)) (f : List Int → List Int) (z : List Int) (h : i ≤ m) (hm : m < 100000000) : (((l.take i).map f).length + [z].length) * 24 ≤ 140737488355328 := by
  rw [List.length_map, List.length_take, List.length_singleton]; omega
theorem lenN2 (i m k : Nat) (l a : List (List Int)) (f g : List Int → List Int) (z : List Int) (h : i ≤ m) (hm : m < 100000000) (hk : a.length < 100000000) : ((a.map g ++ (l.take i).map f).length + [z].length) * 24 ≤ 140737488355328 := by
  rw [List.length_append, List.length_map, List.length_map, List.length_take, List.length_singleton]; omega
theorem lenH (R : List (List Int)) (n i : Nat) (hi : i ≤ R.length) (h : R.length < 1000000000) : ((halves (R.take i) n).length + 1) * 24 ≤ 140737488355328 := by
  have : (halves (R.take i) n).length ≤ (R.take i).length := by unfold halves; rw [List.length_map]; exact List.length_filter_le _ _
  rw [List.length_take] at this; omega
set_option maxHeartbeats 8000000 in
set_option maxRecDepth 100000 in
theorem meet_walk (A0 : Option Addr) (c0 : Nat) (l0 : List (List Int)) (A1 : Option Addr) (c1 : Nat) (l1 : List (List Int)) (w : World) (Hl : Aside0 (Kd.C rowK w A0 l0.length l0)) (Cl : Aside0 (l0.length ≤ c0)) (Hv : Aside0 (Kd.C rowK w A1 l1.length l1)) (Cv : Aside0 (l1.length ≤ c1))
    (n : Nat) (Rr B : List (List Int)) (F0 : Aside0 (Fits n l0)) (F1 : Aside0 (Fits n l1)) (RF : Aside0 (Fits (n + n) Rr)) (K6 : Aside0 (n < 10000000 ∧ l0.length < 100000000 ∧ l1.length < 100000000 ∧ Rr.length < 1000000000)) (FB : Aside0 (span_beside.f [l0, l1] = some (B, 0))) (FR : Aside0 (matrix_Reduce.f (wideL l0 l1) = some (Rr, 0))) :
    Calls Try.prog 22 #[.slice A0 l0.length c0, .slice A1 l1.length c1] w fun e w' => ∃ v0_ : Value, e = .returned (.tuple #[v0_, .int .i64 0]) ∧ Kd.S rowK 23 w' w.heap.size (fun _ => True) v0_ (halves Rr n) ∧ Below w.heap.size w w' := by
  have HB := Aside0.mk (Below.refl w.heap.size w)
  go_enter Try.func22, Try.ntmps22
  go_upto_region 5 with (first
    | ((with_reducible refine gate_dst (N := 22) rfl ?_); (try (refine gate_guard (by rfl) ?_; dsimp only)); refine Kd.N_lit (rowsK) _ 22 ?hg (N' := 22) ?hd (xs := [l0, l1]) (inner := [.slice A0 l0.length c0, .slice A1 l1.length c1]) (ok := fun _ => True) (okp := fun _ => True) ?hr (Reps.one (show Kd.FK (rowsK) _ _ l0 [.slice A0 l0.length c0] from Kd.FK_slice_mk Cl.out (Kd.F_mono (Kd.C_F (Kd.heap_slice _ (Kd.heap_int _)) Hl.out) (fun _ _ => trivial))) (Reps.one (show Kd.FK (rowsK) _ _ l1 [.slice A1 l1.length c1] from Kd.FK_slice_mk Cv.out (Kd.F_mono (Kd.C_F (Kd.heap_slice _ (Kd.heap_int _)) Hv.out) (fun _ _ => trivial))) (Reps.none _ _))) (fun _ h => h) trivial (Below.refl _ _) (Nat.le_refl _) (by simp) ?_; (case hd => rfl); (case hg => rfl); (case hr => first | (go_simp; done) | (go_simp; rfl)); intro v_ w2 ho_ hb _ _; obtain ⟨AM, cM, rfl⟩ := Kd.N_slice ho_; have HM := Aside0.mk (show Kd.C (rowsK) w2 AM 2 [l0, l1] from (Kd.N_reads' ho_).2.2); have CM := Aside0.mk (show 2 ≤ cM from (Kd.N_reads' ho_).2.1); clear ho_; replace Hl := Aside0.mk (Kd.C_below Hl.out hb); replace Hv := Aside0.mk (Kd.C_below Hv.out hb); replace HB := Aside0.mk (HB.out.trans (hb.mono HB.out.size)); clear hb)
    | (go_at_call 33; with_reducible refine (beside2_calls AM cM l0 (l1) B 0 _ HM.out CM.out FB.out).mono ?_; rintro e w3 ⟨v_, rfl, ho_, hb⟩; obtain ⟨AQ, cQ, rfl⟩ := Kd.S_slice ho_; have HQ := Aside0.mk (Kd.S_reads' ho_).2.2; have CQ := Aside0.mk (Kd.S_reads' ho_).2.1; clear ho_; replace Hl := Aside0.mk (Kd.C_below Hl.out hb); replace Hv := Aside0.mk (Kd.C_below Hv.out hb); replace HB := Aside0.mk (HB.out.trans (hb.mono HB.out.size)); clear hb))
  go_wp2
  go_loopg [31, 8] l0.length (fun kq v31 v8 w' => ∃ i : Nat, v31 = .int .i64 (i : Int) ∧ Aside0 (kq + i = l0.length) ∧ Aside0 (Kd.N rowK 23 w' w3.heap.size (fun _ => True) v8 ((l0.take i).map twice)) ∧ Aside0 (Below w3.heap.size w3 w'))
  case atStart => exact ⟨0, rfl, ⟨by omega⟩, ⟨by rw [List.take_zero]; exact Kd.N_nil _ _ _ _ _⟩, ⟨Below.refl _ _⟩⟩
  case round =>
    obtain ⟨i, rfl, HI, HN, HW⟩ := hrel
    by_cases hi : i < l0.length
    · have p0 : (0 : Int) ≤ (i : Int) := Int.natCast_nonneg _
      have p1 : (i : Int) < (l0.length : Int) := Int.ofNat_lt.2 hi
      have q1 : decide ((i : Int) < (l0.length : Int)) = true := decide_eq_true p1
      obtain ⟨ad, Ai, ci, e1, hx1, hl1, hi1⟩ := at_R Hl.out (i : Int) p0 p1
      cases e1
      have er : rdR l0 (i : Int) = l0.getD i [] := by unfold rdR; rw [Int.toNat_natCast]
      rw [er] at hx1 hl1 hi1
      rw [Int.toNat_natCast] at hx1
      replace hx1 := (HW.out.cell (World.block_lt_of_cell? _ _ hx1)).trans hx1
      have Hx := Aside0.mk (Kd.C_below hi1 HW.out)
      have Cx := Aside0.mk hl1
      have HS := Aside0.mk (map_succ twice l0 i hi)
      have hlx := (getD_fits F0.out hi).1
      have hnx := small_next i (by have := K6.out; omega)
      obtain ⟨z, hz⟩ : ∃ z, z = twice (l0.getD i []) := ⟨_, rfl⟩
      have HCF := Aside0.mk (show slices_Concat_byte_byte.f [l0.getD i [], l0.getD i []] = some z from by rw [hz]; exact concat2_f _ _ (by have := K6.out; omega))
      rw [← hz] at HS
      have LEN := Aside0.mk (lenN i _ l0 twice z (Nat.le_of_lt hi) K6.out.2.1)
      have q4 := eq_true p0
      have q5 := eq_true p1
      have q6 := eq_true hi
      have Hi := Aside0.mk hi
      clear p0 p1 hi er hi1 hl1 hlx hz
      generalize l0.getD i [] = x at *
      cases gk with
      | zero => exact absurd HI.out (by have := Hi.out; omega)
      | succ k1 =>
      go_wp2_with (first
        | ((with_reducible refine gate_dst (N := 38) rfl ?_); (try (refine gate_guard (by rfl) ?_; dsimp only)); refine Kd.N_lit (rowK) _ 23 ?hg (N' := 38) ?hd (xs := [x, x]) (inner := [.slice Ai x.length ci, .slice Ai x.length ci]) (ok := fun _ => True) (okp := fun _ => True) ?hr (Reps.one (show Kd.FK rowK _ _ x [.slice Ai x.length ci] from Kd.FK_slice_mk Cx.out (Kd.F_mono (Kd.C_F (Kd.heap_int _) Hx.out) (fun _ _ => trivial))) (Reps.one (show Kd.FK rowK _ _ x [.slice Ai x.length ci] from Kd.FK_slice_mk Cx.out (Kd.F_mono (Kd.C_F (Kd.heap_int _) Hx.out) (fun _ _ => trivial))) (Reps.none _ _))) (fun _ h => h) trivial (Below.refl _ _) (Nat.le_refl _) (by simp) ?_; (case hd => rfl); (case hg => rfl); (case hr => first | (go_simp; done) | (go_simp; rfl)); intro v_ w6 ho_ hb _ _; obtain ⟨AK, cK, rfl⟩ := Kd.N_slice ho_; have HK := Aside0.mk (show Kd.C (rowK) w6 AK 2 [x, x] from (Kd.N_reads' ho_).2.2); have CK := Aside0.mk (show 2 ≤ cK from (Kd.N_reads' ho_).2.1); clear ho_; replace HN := Aside0.mk (Kd.N_below HN.out hb); replace HW := Aside0.mk (HW.out.trans (hb.mono HW.out.size)); clear hb)
        | (go_at_call 41; with_reducible refine (concat2_calls AK cK x x z _ HK.out CK.out HCF.out).mono ?_; rintro e w7 ⟨v0, rfl, hR, hb⟩; have HLT := Aside0.mk (Kd.N_lt HN.out); have H45 := Aside0.mk hb.size; obtain ⟨As, cs, rfl⟩ := Kd.R_slice hR; have Hs := Aside0.mk (Kd.R_mono (ok' := fun k_ => some k_ ≠ u8.ownBlock) (Kd.R_bound hR) (fun k_ hk e_ => by have := HLT.out _ e_.symm; have := hk.2.1; omega)); have Cs := Aside0.mk (Kd.R_reads' hR).2.1; clear hR; replace HN := Aside0.mk (Kd.N_below HN.out hb); replace HW := Aside0.mk (HW.out.trans (hb.mono HW.out.size)); clear hb)
        | ((with_reducible refine gate_dst (N := 40) rfl ?_); refine Kd.N_lit rowK _ 23 ?hg (N' := 40) ?hd (xs := [z]) (inner := [.slice As z.length cs]) (ok := fun k_ => some k_ ≠ u8.ownBlock) (okp := fun k_ => some k_ ≠ u8.ownBlock) ?hr (Reps.one (show Kd.FK rowK _ _ z [.slice As z.length cs] from Kd.FK_slice_mk Cs.out (Kd.R_F Hs.out)) (Reps.none _ _)) (fun _ h => h) (fun e_ => by have := HLT.out _ e_.symm; have := H45.out; omega) (Below.refl _ _) (Nat.le_refl _) (by simp) ?_; (case hd => rfl); (case hg => rfl); (case hr => first | (go_simp; done) | (go_simp; rfl)); intro v_ w8 ho_ hb _ _; obtain ⟨At, ct, rfl⟩ := Kd.N_slice ho_; have HT := Aside0.mk (Kd.N_F ho_); clear ho_; replace HN := Aside0.mk (Kd.N_below HN.out hb); replace HW := Aside0.mk (HW.out.trans (hb.mono HW.out.size)); clear hb)
        | ((with_reducible refine gate_builtin (b := .append) (xs := #[.tmp 35, .tmp 40]) rfl ?_); at_builtin; refine Kd.N_append_rows rowK (w0 := w3) w3.heap.size rfl (.tmp 35) (.tmp 40) 22 23 (.slice none 0 0) 24 rfl Try.underlying22 infoRows rfl (show 0 < 1 by decide) (by decide) u8 ((l0.take i).map twice) [z] _ _ _ (fun _ => True) (fun k_ => some k_ ≠ u8.ownBlock) rfl rfl HN.out HT.out (fun k hk => ⟨trivial, hk⟩) (fun _ _ => trivial) HW.out HW.out.size LEN.out ?_; intro v9 w9 hN hb _ _; have HN9 := Aside0.mk hN; have HW9 := Aside0.mk hb; clear hN hb))
      go_roundg k1
      case measure => omega
      case rel => exact ⟨i + 1, by first | rfl | rw [hnx], ⟨by have := HI.out; omega⟩, ⟨by rw [HS.out]; exact HN9.out⟩, HW9⟩
    · have q1 : decide ((i : Int) < (l0.length : Int)) = false := decide_eq_false (by omega)
      have q2 : decide (i < l0.length) = false := decide_eq_false hi
      have q3 := eq_false hi
      have e : i = l0.length := by have := HI.out; omega
      have HN0 := Aside0.mk (show Kd.N rowK 23 wr w3.heap.size (fun _ => True) u8 (l0.map twice) from by have := HN.out; rw [e, List.take_length] at this; exact this)
      clear hi HI HN e
      go_wp2
      clear q1 q2 q3
      go_loopg [45, 8] l1.length (fun kq v45 v8 w' => ∃ i : Nat, v45 = .int .i64 (i : Int) ∧ Aside0 (kq + i = l1.length) ∧ Aside0 (Kd.N rowK 23 w' w3.heap.size (fun _ => True) v8 (l0.map twice ++ (l1.take i).map half0)) ∧ Aside0 (Below w3.heap.size w3 w'))
      case atStart => exact ⟨0, rfl, ⟨by omega⟩, ⟨by rw [List.take_zero, List.map_nil, List.append_nil]; exact HN0.out⟩, HW⟩
      case round =>
        clear HN0 HW
        obtain ⟨i, rfl, HI, HN, HW⟩ := hrel
        by_cases hi : i < l1.length
        · have p0 : (0 : Int) ≤ (i : Int) := Int.natCast_nonneg _
          have p1 : (i : Int) < (l1.length : Int) := Int.ofNat_lt.2 hi
          have q1 : decide ((i : Int) < (l1.length : Int)) = true := decide_eq_true p1
          obtain ⟨ad, Ai, ci, e1, hx1, hl1, hi1⟩ := at_R Hv.out (i : Int) p0 p1
          cases e1
          have er : rdR l1 (i : Int) = l1.getD i [] := by unfold rdR; rw [Int.toNat_natCast]
          rw [er] at hx1 hl1 hi1
          rw [Int.toNat_natCast] at hx1
          replace hx1 := (HW.out.cell (World.block_lt_of_cell? _ _ hx1)).trans hx1
          have Hx := Aside0.mk (Kd.C_below hi1 HW.out)
          have Cx := Aside0.mk hl1
          have HS := Aside0.mk (map_succ half0 l1 i hi)
          have hlx := (getD_fits F1.out hi).1
          have hnx := small_next i (by have := K6.out; omega)
          obtain ⟨z, hz⟩ : ∃ z, z = half0 (l1.getD i []) := ⟨_, rfl⟩
          obtain ⟨zr, hzr⟩ : ∃ zr, zr = List.replicate (l1.getD i []).length (0 : Int) := ⟨_, rfl⟩
          have HCF := Aside0.mk (show slices_Concat_byte_byte.f [l1.getD i [], zr] = some z from by rw [hz, hzr]; exact concat2_f _ _ (by rw [List.length_replicate]; have := K6.out; omega))
          rw [← hz] at HS
          have LEN := Aside0.mk (lenN2 i _ 0 l1 l0 half0 twice z (Nat.le_of_lt hi) K6.out.2.2.1 K6.out.2.1)
          have HLX := Aside0.mk (show (l1.getD i []).length ≤ 1000000000 from by have := K6.out; omega)
          have HZR := Aside0.mk hzr
          have q4 := eq_true p0
          have q5 := eq_true p1
          have q6 := eq_true hi
          have q7 := eq_true (Int.natCast_nonneg (l1.getD i []).length)
          have q8 := eq_true (show ((l1.getD i []).length : Int) ≤ 281474976710656 from by have := K6.out; omega)
          have q9 : decide ((0 : Int) ≤ ((l1.getD i []).length : Int)) = true := decide_eq_true (Int.natCast_nonneg _)
          have Hi := Aside0.mk hi
          clear p0 p1 hi er hi1 hl1 hlx hz hzr
          generalize l1.getD i [] = x at *
          cases gk with
          | zero => exact absurd HI.out (by have := Hi.out; omega)
          | succ k1 =>
          go_wp2_with (first
        | ((with_reducible refine gate_dst (N := 53) rfl ?_); refine Kd.R_make (Kd.int .u8) _ 5 rfl (N := 53) rfl 23 _ _ rfl (x.length : Int) rfl rfl Try.underlying23 (.int .u8 0) 1 infoT5 rfl (by decide) (by decide) 0 (ok := fun _ => True) (okp := fun _ => True) rfl (fun _ hk => hk) trivial (Int.natCast_nonneg _) (by have := HLX.out; rw [Int.toNat_natCast]; omega) (Below.refl _ _) (Nat.le_refl _) ?_; intro v_ w5 ho_ hb _ _; rw [Int.toNat_natCast, ← HZR.out] at ho_; obtain ⟨Az, cz, rfl⟩ := Kd.R_slice ho_; have Hz := Aside0.mk ho_; have Cz := Aside0.mk (Kd.R_reads' ho_).2.1; replace Hx := Aside0.mk (Kd.C_below Hx.out hb); clear ho_; replace HN := Aside0.mk (Kd.N_below HN.out hb); replace HW := Aside0.mk (HW.out.trans (hb.mono HW.out.size)); clear hb)
        | ((with_reducible refine gate_dst (N := 54) rfl ?_); (try (refine gate_guard (by rfl) ?_; dsimp only)); refine Kd.N_lit (rowK) _ 23 ?hg (N' := 54) ?hd (xs := [x, zr]) (inner := [.slice Ai x.length ci, .slice Az zr.length cz]) (ok := fun _ => True) (okp := fun _ => True) ?hr (Reps.one (show Kd.FK rowK _ _ x [.slice Ai x.length ci] from Kd.FK_slice_mk Cx.out (Kd.F_mono (Kd.C_F (Kd.heap_int _) Hx.out) (fun _ _ => trivial))) (Reps.one (show Kd.FK rowK _ _ zr [.slice Az zr.length cz] from Kd.FK_slice_mk Cz.out (Kd.F_mono (Kd.R_F Hz.out) (fun _ _ => trivial))) (Reps.none _ _))) (fun _ h => h) trivial (Below.refl _ _) (Nat.le_refl _) (by simp) ?_; (case hd => rfl); (case hg => rfl); (case hr => first | (go_simp; done) | (go_simp; rfl)); intro v_ w6 ho_ hb _ _; obtain ⟨AK, cK, rfl⟩ := Kd.N_slice ho_; have HK := Aside0.mk (show Kd.C (rowK) w6 AK 2 [x, zr] from (Kd.N_reads' ho_).2.2); have CK := Aside0.mk (show 2 ≤ cK from (Kd.N_reads' ho_).2.1); clear ho_; replace HN := Aside0.mk (Kd.N_below HN.out hb); replace HW := Aside0.mk (HW.out.trans (hb.mono HW.out.size)); clear hb)
        | (go_at_call 41; with_reducible refine (concat2_calls AK cK x zr z _ HK.out CK.out HCF.out).mono ?_; rintro e w7 ⟨v0, rfl, hR, hb⟩; have HLT := Aside0.mk (Kd.N_lt HN.out); have H45 := Aside0.mk hb.size; obtain ⟨As, cs, rfl⟩ := Kd.R_slice hR; have Hs := Aside0.mk (Kd.R_mono (ok' := fun k_ => some k_ ≠ u8.ownBlock) (Kd.R_bound hR) (fun k_ hk e_ => by have := HLT.out _ e_.symm; have := hk.2.1; omega)); have Cs := Aside0.mk (Kd.R_reads' hR).2.1; clear hR; replace HN := Aside0.mk (Kd.N_below HN.out hb); replace HW := Aside0.mk (HW.out.trans (hb.mono HW.out.size)); clear hb)
        | ((with_reducible refine gate_dst (N := 56) rfl ?_); refine Kd.N_lit rowK _ 23 ?hg (N' := 56) ?hd (xs := [z]) (inner := [.slice As z.length cs]) (ok := fun k_ => some k_ ≠ u8.ownBlock) (okp := fun k_ => some k_ ≠ u8.ownBlock) ?hr (Reps.one (show Kd.FK rowK _ _ z [.slice As z.length cs] from Kd.FK_slice_mk Cs.out (Kd.R_F Hs.out)) (Reps.none _ _)) (fun _ h => h) (fun e_ => by have := HLT.out _ e_.symm; have := H45.out; omega) (Below.refl _ _) (Nat.le_refl _) (by simp) ?_; (case hd => rfl); (case hg => rfl); (case hr => first | (go_simp; done) | (go_simp; rfl)); intro v_ w8 ho_ hb _ _; obtain ⟨At, ct, rfl⟩ := Kd.N_slice ho_; have HT := Aside0.mk (Kd.N_F ho_); clear ho_; replace HN := Aside0.mk (Kd.N_below HN.out hb); replace HW := Aside0.mk (HW.out.trans (hb.mono HW.out.size)); clear hb)
        | ((with_reducible refine gate_builtin (b := .append) (xs := #[.tmp 49, .tmp 56]) rfl ?_); at_builtin; refine Kd.N_append_rows rowK (w0 := w3) w3.heap.size rfl (.tmp 49) (.tmp 56) 22 23 (.slice none 0 0) 24 rfl Try.underlying22 infoRows rfl (show 0 < 1 by decide) (by decide) u8 (l0.map twice ++ (l1.take i).map half0) [z] _ _ _ (fun _ => True) (fun k_ => some k_ ≠ u8.ownBlock) rfl rfl HN.out HT.out (fun k hk => ⟨trivial, hk⟩) (fun _ _ => trivial) HW.out HW.out.size LEN.out ?_; intro v9 w9 hN hb _ _; have HN9 := Aside0.mk hN; have HW9 := Aside0.mk hb; clear hN hb))
          go_roundg k1
          case measure => omega
          case rel => exact ⟨i + 1, by first | rfl | rw [hnx], ⟨by have := HI.out; omega⟩, ⟨by rw [HS.out, ← List.append_assoc]; exact HN9.out⟩, HW9⟩
        · have q1 : decide ((i : Int) < (l1.length : Int)) = false := decide_eq_false (by omega)
          have q2 : decide (i < l1.length) = false := decide_eq_false hi
          have q3 := eq_false hi
          have e : i = l1.length := by have := HI.out; omega
          obtain ⟨wd, hwd⟩ : ∃ wd, wd = wideL l0 l1 := ⟨_, rfl⟩
          have HN0 := Aside0.mk (show Kd.N rowK 23 wr w3.heap.size (fun _ => True) u8 wd from by have := HN.out; rw [e, List.take_length] at this; rw [hwd]; exact this)
          have FRw := Aside0.mk (show matrix_Reduce.f wd = some (Rr, 0) from by rw [hwd]; exact FR.out)
          obtain ⟨AW, cW, rfl⟩ := Kd.N_slice HN0.out
          have HWd := Aside0.mk (Kd.N_reads' HN0.out).2.2
          have CWd := Aside0.mk (Kd.N_reads' HN0.out).2.1
          replace HB := Aside0.mk (HB.out.trans (HW.out.mono HB.out.size))
          clear hi HI HN HN0 e hwd HW
          go_upto_region 17 with (first
        | (go_at_call 32; with_reducible refine (matrix_Reduce.calls AW cW wd Rr 0 _ HWd.out CWd.out FRw.out).mono ?_; rintro e w5 ⟨v_, rfl, ho_, hb⟩; obtain ⟨AR, cR, rfl⟩ := Kd.S_slice ho_; have HR := Aside0.mk (Kd.S_reads' ho_).2.2; have CR := Aside0.mk (Kd.S_reads' ho_).2.1; clear ho_; replace HB := Aside0.mk (HB.out.trans (hb.mono HB.out.size)); clear hb))
          go_wp2
          clear q1 q2 q3
          go_loopg [66, 15] Rr.length (fun kq v66 v15 w' => ∃ i : Nat, v66 = .int .i64 (i : Int) ∧ Aside0 (kq + i = Rr.length) ∧ Aside0 (Kd.S rowK 23 w' w5.heap.size (fun _ => True) v15 (halves (Rr.take i) n)) ∧ Aside0 (Below w5.heap.size w5 w'))
          case atStart => exact ⟨0, rfl, ⟨by omega⟩, ⟨Kd.S_nil _ _ _ _ _⟩, ⟨Below.refl _ _⟩⟩
          case round =>
            obtain ⟨i, rfl, HI, HN, HW⟩ := hrel
            by_cases hi : i < Rr.length
            · have p0 : (0 : Int) ≤ (i : Int) := Int.natCast_nonneg _
              have p1 : (i : Int) < (Rr.length : Int) := Int.ofNat_lt.2 hi
              have q1 : decide ((i : Int) < (Rr.length : Int)) = true := decide_eq_true p1
              obtain ⟨ad, Ai, ci, e1, hx1, hl1, hi1⟩ := at_R HR.out (i : Int) p0 p1
              cases e1
              have er : rdR Rr (i : Int) = Rr.getD i [] := by unfold rdR; rw [Int.toNat_natCast]
              rw [er] at hx1 hl1 hi1
              rw [Int.toNat_natCast] at hx1
              replace hx1 := (HW.out.cell (World.block_lt_of_cell? _ _ hx1)).trans hx1
              have hx0 := Kd.C_below hi1 HW.out
              have hlx := (getD_fits RF.out hi).1
              have hnx := small_next i (by have := K6.out; omega)
              have HS := Aside0.mk (halves_succ Rr n i hi)
              have LEN := Aside0.mk (lenH Rr n i (Nat.le_of_lt hi) K6.out.2.2.2)
              have HK := Aside0.mk K6.out.1
              have q4 := eq_true p0
              have q5 := eq_true p1
              have q6 := eq_true hi
              have Hi := Aside0.mk hi
              clear p0 p1 hi er hi1
              generalize Rr.getD i [] = x at *
              have hd0 : Int.tdiv (x.length : Int) 2 = (n : Int) := by rw [Int.tdiv_eq_ediv_of_nonneg (Int.natCast_nonneg _)]; omega
              have hd1 : wrap64 (n : Int) = (n : Int) := by have := HK.out; unfold wrap64; omega
              have hd2 : (x.length : Int) / 2 = (n : Int) := by omega
              have hd3 : x.length / 2 = n := by omega
              obtain ⟨info, hinfo, hinf2⟩ := Option.map_eq_some_iff.1 infoT5
              have hsz : info.size = 1 := by simp only [Prod.mk.injEq] at hinf2; exact hinf2.2.1
              clear hinf2
              have hnl : n ≤ x.length := by omega
              have hcut1 := cut_to (P := Try.prog) 23 5 .i64 Try.underlying23 hinfo Ai x.length ci (n : Int) (Int.natCast_nonneg _) (Int.ofNat_le.2 hnl) hl1
              have hcut2 := cut_from (P := Try.prog) 23 5 .i64 Try.underlying23 hinfo 1 hsz Ai x.length ci (n : Int) (Int.natCast_nonneg _) (Int.ofNat_le.2 hnl)
              rw [Int.toNat_natCast] at hcut1 hcut2
              have ht := Kd.C_take (m := n) hx0 hnl
              have hdr := Kd.C_drop (m := n) (c := ci) hx0 hnl hl1
              rw [show (Kd.int IntKind.u8).sz = 1 from rfl] at hdr
              obtain ⟨Aq, hAq⟩ : ∃ Aq, (if ci = n then Ai else Option.map (fun x => x.add (n * 1)) Ai) = Aq := ⟨_, rfl⟩
              rw [hAq] at hcut2 hdr
              have e1 : (x.take n).length = n := by rw [List.length_take]; omega
              have e2 : (x.drop n).length = x.length - n := List.length_drop
              have HIZ := isZero_calls Ai ci (x.take n) wr ht (by rw [e1]; omega) (by rw [e1]; have := HK.out; omega)
              rw [e1] at HIZ
              have HCL : ∀ W, Kd.C (Kd.int .u8) W Aq (x.drop n).length (x.drop n) → Calls Try.prog 42 #[.slice Aq (x.length - n) (ci - n)] W fun e w' => ∃ v0_ : Value, e = .returned (v0_) ∧ Kd.R (Kd.int .u8) 5 w' W.heap.size (fun _ => True) v0_ (x.drop n) ∧ Below W.heap.size W w' := fun W hW => by
                rw [← e2]
                exact bytes_Clone.calls Aq (ci - n) (x.drop n) (x.drop n) W hW (by rw [e2]; omega) (by unfold bytes_Clone.f; rw [if_pos (by rw [e2]; have := HK.out; omega)])
              have HIZ := Aside0.mk HIZ
              have HCL := Aside0.mk HCL
              have HDR := Aside0.mk hdr
              have Cx := Aside0.mk hl1
              have q7 := eq_true (Int.natCast_nonneg n)
              have q8 := eq_true (show (n : Int) ≤ (x.length : Int) from Int.ofNat_le.2 hnl)
              clear ht hdr hx0 e1 e2 hlx hnl hl1 hsz hinfo hAq
              generalize x.drop n = xd at *
              cases gk with
              | zero => exact absurd HI.out (by have := Hi.out; omega)
              | succ k1 =>
              by_cases hz : zeroB x n = true
              · have hz2 : ((x.take n).all fun z => z == 0) = true := hz
                rw [hz2] at HIZ
                rw [if_pos hz] at HS
                clear hz hz2
                go_wp2_with (first
                  | (go_at_call 36; with_reducible refine HIZ.out.mono ?_; rintro e w6 ⟨rfl, hd⟩; have hb := drawn_below hd; clear hd; replace HN := Aside0.mk (Kd.S_below HN.out hb); replace HDR := Aside0.mk (Kd.C_below HDR.out hb); have hx1' := (hb.cell (World.block_lt_of_cell? _ _ hx1)).trans hx1; replace HW := Aside0.mk (HW.out.trans (hb.mono HW.out.size)); clear hb)
                  | (go_at_call 42; with_reducible refine (HCL.out _ HDR.out).mono ?_; rintro e w7 ⟨v0, rfl, hR, hb⟩; obtain ⟨Ad, cd, rfl⟩ := Kd.R_slice hR; have HLT := Aside0.mk (Kd.R_lt (Kd.S_R HN.out)); have Hd := Aside0.mk (Kd.R_lower (Kd.R_mono (ok' := fun k_ => w6.heap.size ≤ k_) (Kd.R_bound hR) (fun k_ hk => hk.2.1)) HW.out.size); replace HN := Aside0.mk (Kd.S_mono (Kd.S_below (Kd.S_bound HN.out) hb) (ok' := fun k_ => True ∧ ¬ w6.heap.size ≤ k_) (fun k_ hk => ⟨trivial, by have := hk.2.2.1; omega⟩)); replace HW := Aside0.mk (HW.out.trans (hb.mono HW.out.size)); clear hR hb)
                  | ((with_reducible refine gate_builtin (b := .append) (xs := #[.tmp 77, .tmp 82]) rfl ?_); at_builtin; refine Kd.S_append rowK (w0 := w5) w5.heap.size rfl (.tmp 77) (.tmp 82) 22 23 (.slice none 0 0) 24 rfl Try.underlying22 infoRows rfl (by decide) (by decide) u15 (halves (Rr.take i) n) xd [.slice Ad xd.length cd] (fun _ => True) (fun k_ => w6.heap.size ≤ k_) rfl rfl (Kd.M_row Hd.out) (fun k_ hk => ⟨trivial, fun e_ => absurd (HLT.out k_ e_.symm) (Nat.not_lt.2 hk)⟩) (fun _ _ => trivial) HN.out HW.out HW.out.size LEN.out ?_; intro v9 w9 hN hb _ _; have HN9 := Aside0.mk hN; have HW9 := Aside0.mk hb; clear hN hb))
                go_roundg k1
                case measure => omega
                case rel => exact ⟨i + 1, by first | rfl | rw [hnx], ⟨by have := HI.out; omega⟩, ⟨by rw [HS.out]; exact HN9.out⟩, HW9⟩
              · have hz2 : ((x.take n).all fun z => z == 0) = false := Bool.eq_false_iff.2 hz
                rw [hz2] at HIZ
                rw [if_neg hz] at HS
                clear hz hz2
                go_wp2_with (first
                  | (go_at_call 36; with_reducible refine HIZ.out.mono ?_; rintro e w6 ⟨rfl, hd⟩; have hb := drawn_below hd; clear hd; replace HN := Aside0.mk (Kd.S_below HN.out hb); replace HDR := Aside0.mk (Kd.C_below HDR.out hb); have hx1' := (hb.cell (World.block_lt_of_cell? _ _ hx1)).trans hx1; replace HW := Aside0.mk (HW.out.trans (hb.mono HW.out.size)); clear hb)
                  | (go_at_call 42; with_reducible refine (HCL.out _ HDR.out).mono ?_; rintro e w7 ⟨v0, rfl, hR, hb⟩; obtain ⟨Ad, cd, rfl⟩ := Kd.R_slice hR; have HLT := Aside0.mk (Kd.R_lt (Kd.S_R HN.out)); have Hd := Aside0.mk (Kd.R_lower (Kd.R_mono (ok' := fun k_ => w6.heap.size ≤ k_) (Kd.R_bound hR) (fun k_ hk => hk.2.1)) HW.out.size); replace HN := Aside0.mk (Kd.S_mono (Kd.S_below (Kd.S_bound HN.out) hb) (ok' := fun k_ => True ∧ ¬ w6.heap.size ≤ k_) (fun k_ hk => ⟨trivial, by have := hk.2.2.1; omega⟩)); replace HW := Aside0.mk (HW.out.trans (hb.mono HW.out.size)); clear hR hb)
                  | ((with_reducible refine gate_builtin (b := .append) (xs := #[.tmp 77, .tmp 82]) rfl ?_); at_builtin; refine Kd.S_append rowK (w0 := w5) w5.heap.size rfl (.tmp 77) (.tmp 82) 22 23 (.slice none 0 0) 24 rfl Try.underlying22 infoRows rfl (by decide) (by decide) u15 (halves (Rr.take i) n) xd [.slice Ad xd.length cd] (fun _ => True) (fun k_ => w6.heap.size ≤ k_) rfl rfl (Kd.M_row Hd.out) (fun k_ hk => ⟨trivial, fun e_ => absurd (HLT.out k_ e_.symm) (Nat.not_lt.2 hk)⟩) (fun _ _ => trivial) HN.out HW.out HW.out.size LEN.out ?_; intro v9 w9 hN hb _ _; have HN9 := Aside0.mk hN; have HW9 := Aside0.mk hb; clear hN hb))
                go_roundg k1
                case measure => omega
                case rel => exact ⟨i + 1, by first | rfl | rw [hnx], ⟨by have := HI.out; omega⟩, ⟨by rw [HS.out]; exact HN.out⟩, HW⟩
            · have q1 : decide ((i : Int) < (Rr.length : Int)) = false := decide_eq_false (by omega)
              have q2 : decide (i < Rr.length) = false := decide_eq_false hi
              have q3 := eq_false hi
              have e : i = Rr.length := by have := HI.out; omega
              have HN0 := Aside0.mk (show Kd.S rowK 23 wr w5.heap.size (fun _ => True) u15 (halves Rr n) from by have := HN.out; rw [e, List.take_length] at this; exact this)
              clear hi HI HN e
              go_wp2
              go_ret2
              exact ⟨_, rfl, Kd.S_lower HN0.out HB.out.size, HB.out.trans (HW.out.mono HB.out.size)⟩
set_option maxHeartbeats 2000000 in
set_option maxRecDepth 100000 in
theorem meet_err (A0 : Option Addr) (c0 : Nat) (l0 : List (List Int)) (A1 : Option Addr) (c1 : Nat) (l1 : List (List Int)) (w : World) (Hl : Aside0 (Kd.C rowK w A0 l0.length l0)) (Cl : Aside0 (l0.length ≤ c0)) (Hv : Aside0 (Kd.C rowK w A1 l1.length l1)) (Cv : Aside0 (l1.length ≤ c1))
    (B : List (List Int)) (FB : Aside0 (span_beside.f [l0, l1] = some (B, 21))) :
    Calls Try.prog 22 #[.slice A0 l0.length c0, .slice A1 l1.length c1] w fun e w' => ∃ v0_ : Value, e = .returned (.tuple #[v0_, .int .i64 21]) ∧ Kd.S rowK 23 w' w.heap.size (fun _ => True) v0_ [] ∧ Below w.heap.size w w' := by
  have HB := Aside0.mk (Below.refl w.heap.size w)
  go_enter Try.func22, Try.ntmps22
  go_wp2_with (first
    | ((with_reducible refine gate_dst (N := 22) rfl ?_); (try (refine gate_guard (by rfl) ?_; dsimp only)); refine Kd.N_lit (rowsK) _ 22 ?hg (N' := 22) ?hd (xs := [l0, l1]) (inner := [.slice A0 l0.length c0, .slice A1 l1.length c1]) (ok := fun _ => True) (okp := fun _ => True) ?hr (Reps.one (show Kd.FK (rowsK) _ _ l0 [.slice A0 l0.length c0] from Kd.FK_slice_mk Cl.out (Kd.F_mono (Kd.C_F (Kd.heap_slice _ (Kd.heap_int _)) Hl.out) (fun _ _ => trivial))) (Reps.one (show Kd.FK (rowsK) _ _ l1 [.slice A1 l1.length c1] from Kd.FK_slice_mk Cv.out (Kd.F_mono (Kd.C_F (Kd.heap_slice _ (Kd.heap_int _)) Hv.out) (fun _ _ => trivial))) (Reps.none _ _))) (fun _ h => h) trivial (Below.refl _ _) (Nat.le_refl _) (by simp) ?_; (case hd => rfl); (case hg => rfl); (case hr => first | (go_simp; done) | (go_simp; rfl)); intro v_ w2 ho_ hb _ _; obtain ⟨AM, cM, rfl⟩ := Kd.N_slice ho_; have HM := Aside0.mk (show Kd.C (rowsK) w2 AM 2 [l0, l1] from (Kd.N_reads' ho_).2.2); have CM := Aside0.mk (show 2 ≤ cM from (Kd.N_reads' ho_).2.1); clear ho_; replace Hl := Aside0.mk (Kd.C_below Hl.out hb); replace Hv := Aside0.mk (Kd.C_below Hv.out hb); replace HB := Aside0.mk (HB.out.trans (hb.mono HB.out.size)); clear hb)
    | (go_at_call 33; with_reducible refine (beside2_calls AM cM l0 (l1) B 21 _ HM.out CM.out FB.out).mono ?_; rintro e w3 ⟨v_, rfl, ho_, hb⟩; obtain ⟨AQ, cQ, rfl⟩ := Kd.S_slice ho_; have HQ := Aside0.mk (Kd.S_reads' ho_).2.2; have CQ := Aside0.mk (Kd.S_reads' ho_).2.1; clear ho_; replace Hl := Aside0.mk (Kd.C_below Hl.out hb); replace Hv := Aside0.mk (Kd.C_below Hv.out hb); replace HB := Aside0.mk (HB.out.trans (hb.mono HB.out.size)); clear hb))
  go_ret2
  exact ⟨_, rfl, Kd.S_nil _ _ _ _ _, HB.out⟩
def meetL (l0 l1 : List (List Int)) (n : Nat) : List (List Int) := halves (redRows (wideL l0 l1) (n + n)) n
def span_Meet.f (l0 l1 : List (List Int)) : Option (List (List Int) × Int) :=
  if okB l0 l1 = true then (if mis (l0 ++ l1) = true then some ([], 21) else some (meetL l0 l1 (wid l0 l1), 0)) else none
theorem wide_fits {n : Nat} {l0 l1 : List (List Int)} (h0 : Fits n l0) (h1 : Fits n l1) : Fits (n + n) (wideL l0 l1) := fun r hr => by
  rcases List.mem_append.1 hr with q | q
  · obtain ⟨x, hx, rfl⟩ := List.mem_map.1 q
    have := h0 x hx
    exact ⟨by unfold twice; rw [List.length_append, this.1], fun y hy => (List.mem_append.1 hy).elim (this.2 y) (this.2 y)⟩
  · obtain ⟨x, hx, rfl⟩ := List.mem_map.1 q
    have := h1 x hx
    exact ⟨by unfold half0; rw [List.length_append, List.length_replicate, this.1], fun y hy => (List.mem_append.1 hy).elim (this.2 y) (fun q => by rw [List.eq_of_mem_replicate q]; exact ⟨by decide, by decide⟩)⟩
theorem span_Meet.calls (A0 : Option Addr) (c0 : Nat) (l0 : List (List Int)) (A1 : Option Addr) (c1 : Nat) (l1 : List (List Int)) (r1 : List (List Int)) (r2 : Int) (w : World) (hr0 : Kd.C (Kd.slice 5 (Kd.int .u8)) w A0 l0.length l0) (hc0 : l0.length ≤ c0) (hr1 : Kd.C (Kd.slice 5 (Kd.int .u8)) w A1 l1.length l1) (hc1 : l1.length ≤ c1) (h : span_Meet.f l0 l1 = some (r1, r2)) :
    Calls Try.prog 22 #[.slice A0 l0.length c0, .slice A1 l1.length c1] w fun e w' => ∃ v0_ : Value, e = .returned (.tuple #[v0_, .int .i64 r2]) ∧ Kd.S (Kd.slice 5 (Kd.int .u8)) 23 w' w.heap.size (fun _ => True) v0_ r1 ∧ Below w.heap.size w w' := by
  unfold span_Meet.f at h
  by_cases hb : okB l0 l1 = true
  · rw [if_pos hb] at h
    have hk := okB_iff.1 hb
    have e2 := beside2 (a := l0) (b := l1) (by omega)
    by_cases hm : mis (l0 ++ l1) = true
    · rw [if_pos hm] at h
      simp only [Option.some.injEq, Prod.mk.injEq] at h
      obtain ⟨rfl, rfl⟩ := h
      exact meet_err A0 c0 l0 A1 c1 l1 w ⟨hr0⟩ ⟨hc0⟩ ⟨hr1⟩ ⟨hc1⟩ [] ⟨by rw [e2]; exact reduce_mis (by simp; omega) hm⟩
    · rw [if_neg hm] at h
      simp only [Option.some.injEq, Prod.mk.injEq] at h
      obtain ⟨rfl, rfl⟩ := h
      have hF := fits2 hb hm
      have h0 := fits_left hF
      have h1 := fits_right hF
      have hw := wide_fits h0 h1
      have hwl : (wideL l0 l1).length = l0.length + l1.length := by unfold wideL; rw [List.length_append, List.length_map, List.length_map]
      obtain ⟨p, k1, k2, k3, k4⟩ := redRows_spec hw
      exact meet_walk A0 c0 l0 A1 c1 l1 w ⟨hr0⟩ ⟨hc0⟩ ⟨hr1⟩ ⟨hc1⟩ (wid l0 l1) _ _ ⟨h0⟩ ⟨h1⟩ ⟨k3⟩ ⟨hk.2.2.1, hk.1, hk.2.1, by omega⟩ ⟨by rw [e2]; exact reduce_f hF (by simp; omega) (by omega)⟩ ⟨reduce_f hw (by omega) (by omega)⟩
  · rw [if_neg hb] at h; cases h
end Go.Proofs.Ythgpmneplpdeiaa.Hand
end
