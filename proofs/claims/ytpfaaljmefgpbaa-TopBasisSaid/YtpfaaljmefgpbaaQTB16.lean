/- QTB, part 16: HConcat HSpanT HBas. -/
import Derived.Test.YtpfaaljmefgpbaaQTB10
import Derived.Test.YtpfaaljmefgpbaaQTB11
import Derived.Test.YtpfaaljmefgpbaaQTB13
import Derived.Test.YtpfaaljmefgpbaaQTB15
import Derived.Laws.Rows

section
set_option linter.unusedVariables false
set_option linter.unusedSimpArgs false
namespace Go.Proofs.Ytpfaaljmefgpbaa.Hand
open Go.RowKit Go.Proofs.YtpfaaljmefgpbaaW.PrintWords Go.Proofs.YtpfaaljmefgpbaaW.PrintLast Go.Proofs.YtpfaaljmefgpbaaW.PrintMore
set_option maxHeartbeats 2000000 in
set_option maxRecDepth 100000 in
theorem grow_calls (n : Nat) (w : World) (hn : n < 100000000000) :
    Calls Try.prog 56 #[.slice none 0 0, .int .i64 (n : Int)] w fun e w' => ∃ v : Value, e = .returned v ∧ Kd.R (Kd.int .u8) 5 w' w.heap.size (fun _ => True) v [] ∧ Below w.heap.size w w' := by
  obtain ⟨info, hinfo, -⟩ := Option.map_eq_some_iff.1 infoT5
  have hc1 := cut_to (P := Try.prog) 22 5 .i64 Try.underlying22 hinfo none 0 0 0 (by omega) (by omega) (Nat.zero_le _)
  have q1 : ((n : Int) < 0) = False := eq_false (by omega)
  have q2 : decide ((n : Int) < 0) = false := decide_eq_false (by omega)
  by_cases h0 : n = 0
  · subst h0
    go_enter Try.func56, Try.ntmps56
    go_wp2
    go_ret
    exact ⟨_, rfl, Kd.R_nil _ _ _ _ _, Below.refl _ _⟩
  · have q3 : decide ((n : Int) > 0) = true := decide_eq_true (by omega)
    have q4 : wrap64 ((n : Int)) = (n : Int) := by unfold wrap64; omega
    have q5 : (0 < n) = True := eq_true (by omega)
    have q6 : decide (0 < n) = true := decide_eq_true (by omega)
    have Hn := Aside0.mk hn
    have HC := Aside0.mk (fun (A : Option Addr) (c : Nat) (h : n ≤ c) => cut_to (P := Try.prog) 22 5 .i64 Try.underlying22 hinfo A n c 0 (by omega) (by omega) h)
    clear hn
    go_enter Try.func56, Try.ntmps56
    go_wp2_with (first
      | ((with_reducible refine gate_builtin (b := .append) (xs := #[.tmp 20, .tmp 21]) rfl ?_); at_builtin; refine Kd.R_append_zeros (Kd.int .u8) (w0 := w) w.heap.size rfl (.tmp 20) (.tmp 21) 22 3 5 (.int .u8 0) 1 rfl Try.underlying22 Try.underlying3 infoT5 rfl (by decide) (by decide) (.slice none 0 0) [] 0 (n : Int) (fun _ => True) rfl (congrArg (Value.int IntKind.i64) q4) rfl (fun _ _ => trivial) (Kd.R_nil _ _ _ _ _) (by omega) (Below.refl _ _) (Nat.le_refl _) (by have := Hn.out; rw [List.length_nil, Int.toNat_natCast]; omega) ?_; intro v1 w1 hR hb _ _; rw [List.nil_append] at hR; obtain ⟨A, c, rfl, hlc, _⟩ := Kd.R_reads hR; rw [List.length_replicate, Int.toNat_natCast] at hR hlc; have HR := Aside0.mk hR; have HB := Aside0.mk hb; have hcut := HC.out A c hlc; clear hR hb))
    go_ret
    refine ⟨_, rfl, ?_, HB.out⟩
    have := Kd.R_take (m := 0) HR.out (Nat.zero_le _)
    rwa [List.take_zero] at this
theorem flat_succ (l : List (List Int)) (i : Nat) (h : i < l.length) : (l.take (i + 1)).flatten = (l.take i).flatten ++ l[i] := by
  rw [List.take_add_one, List.getElem?_eq_getElem h, Option.toList_some, List.flatten_append]; simp only [List.flatten_cons, List.flatten_nil, List.append_nil]
theorem flat_le (l : List (List Int)) (i : Nat) : (l.take i).flatten.length ≤ l.flatten.length := by
  conv => rhs; rw [← List.take_append_drop i l, List.flatten_append]
  rw [List.length_append]; omega
def slices_Concat_byte_byte.f (l0 : List (List Int)) : Option (List Int) := if l0.length < 1000000000 ∧ l0.flatten.length < 100000000000 then some l0.flatten else none
set_option maxHeartbeats 4000000 in
set_option maxRecDepth 100000 in
theorem slices_Concat_byte_byte.calls (A0 : Option Addr) (c0 : Nat) (l0 : List (List Int)) (r : List Int) (w : World) (hr0 : Kd.C (Kd.slice 5 (Kd.int .u8)) w A0 l0.length l0) (hc0 : l0.length ≤ c0) (h : slices_Concat_byte_byte.f l0 = some r) :
    Calls Try.prog 38 #[.slice A0 l0.length c0] w fun e w' => ∃ v : Value, e = .returned v ∧ Kd.R (Kd.int .u8) 5 w' w.heap.size (fun _ => True) v r ∧ Below w.heap.size w w' := by
  unfold slices_Concat_byte_byte.f at h
  by_cases hb : l0.length < 1000000000 ∧ l0.flatten.length < 100000000000
  · rw [if_pos hb] at h
    obtain rfl := Option.some.inj h
    clear h
    have HR := Aside0.mk hr0
    have HC := Aside0.mk hc0
    have HL := Aside0.mk hb
    clear hr0 hc0 hb
    go_enter Try.func38, Try.ntmps38
    go_wp2
    go_loopg [11, 3] l0.length (fun kq v11 v3 w' => ∃ i : Nat, v11 = .int .i64 (i : Int) ∧ v3 = .int .i64 ((l0.take i).flatten.length : Int) ∧ Aside0 (kq + i = l0.length) ∧ w = w')
    case atStart => exact ⟨0, rfl, rfl, ⟨by omega⟩, rfl⟩
    case round =>
      obtain ⟨i, rfl, rfl, HI, rfl⟩ := hrel
      by_cases hi : i < l0.length
      · have q1 : decide ((i : Int) < (l0.length : Int)) = true := decide_eq_true (by omega)
        have p0 : (0 : Int) ≤ (i : Int) := by omega
        have p1 : (i : Int) < (l0.length : Int) := by omega
        obtain ⟨ad, Ai, ci, e1, hx1, hl1, hi1⟩ := at_R HR.out (i : Int) p0 p1
        cases e1
        have er : rdR l0 (i : Int) = l0[i] := by unfold rdR; rw [Int.toNat_natCast, List.getD_eq_getElem?_getD, List.getElem?_eq_getElem hi, Option.getD_some]
        rw [er, Int.toNat_natCast] at hx1
        have hs := flat_succ l0 i hi
        have hle := flat_le l0 (i + 1)
        rw [hs, List.length_append] at hle
        have hL := HL.out
        have HS := Aside0.mk hs
        have q2 : wrap64 (((l0.take i).flatten.length : Int) + (l0[i].length : Int)) = (((l0.take i).flatten.length + l0[i].length : Nat) : Int) := by unfold wrap64; omega
        have q3 : decide ((((l0.take i).flatten.length + l0[i].length : Nat) : Int) < 0) = false := decide_eq_false (by omega)
        have hi9 : (i : Int) ≤ 1000000000 := by have := HL.out.1; omega
        have hi8 := p0
        have q4 := eq_true p0
        have q5 := eq_true p1
        have q6 := eq_true hi
        have Hi := Aside0.mk hi
        generalize l0[i] = x at *
        clear hs hle hL p0 p1 hi er hi1 hl1
        cases gk with
        | zero => exact absurd HI.out (by have := Hi.out; omega)
        | succ k1 =>
          generalize hfl : (l0.take i).flatten.length = F at *
          generalize hll : x.length = lI at *
          go_wp2
          go_roundg k1
          case measure => omega
          case rel => exact ⟨i + 1, by go_num, by rw [HS.out, List.length_append, hfl, hll]; exact congrArg (Value.int IntKind.i64) q2, ⟨by have := HI.out; omega⟩, rfl⟩
      · have q1 : decide ((i : Int) < (l0.length : Int)) = false := decide_eq_false (by omega)
        have e : i = l0.length := by have := HI.out; omega
        subst e
        rw [List.take_length]
        clear hi
        obtain ⟨F, hF⟩ : ∃ F, F = l0.flatten.length := ⟨_, rfl⟩
        rw [← hF]
        have HG := Aside0.mk (fun W => grow_calls F W (by rw [hF]; exact HL.out.2))
        clear hF
        go_wp2_with (go_at_call 56; refine (HG.out _).mono ?_; rintro e w1 ⟨v, rfl, hR, hb⟩; have HR1 := Aside0.mk hR; have HB := Aside0.mk hb; clear hR hb)
        go_loopg [27, 6] l0.length (fun kq v27 v6 w' => ∃ i : Nat, v27 = .int .i64 (i : Int) ∧ Aside0 (Kd.R (Kd.int .u8) 5 w' w.heap.size (fun _ => True) v6 (l0.take i).flatten) ∧ Aside0 (kq + i = l0.length) ∧ Aside0 (Below w.heap.size w w'))
        case atStart => exact ⟨0, rfl, ⟨show Kd.R _ _ _ _ _ _ [] from HR1.out⟩, ⟨by omega⟩, HB⟩
        case round =>
          clear HR1 HB
          obtain ⟨i, rfl, HR1, HI, HB⟩ := hrel
          by_cases hi : i < l0.length
          · have q1 : decide ((i : Int) < (l0.length : Int)) = true := decide_eq_true (by omega)
            have p0 : (0 : Int) ≤ (i : Int) := by omega
            have p1 : (i : Int) < (l0.length : Int) := by omega
            obtain ⟨ad, Ai, ci, e1, hx1, hl1, hi1⟩ := at_R HR.out (i : Int) p0 p1
            cases e1
            have er : rdR l0 (i : Int) = l0[i] := by unfold rdR; rw [Int.toNat_natCast, List.getD_eq_getElem?_getD, List.getElem?_eq_getElem hi, Option.getD_some]
            rw [er] at hx1 hl1 hi1
            rw [Int.toNat_natCast] at hx1
            replace hx1 := (HB.out.cell (World.block_lt_of_cell? _ _ hx1)).trans hx1
            have HRi := Aside0.mk (Kd.C_below hi1 HB.out)
            have HS := Aside0.mk (flat_succ l0 i hi)
            have HLE := Aside0.mk (flat_le l0 (i + 1))
            have hi9 : (i : Int) ≤ 1000000000 := by have := HL.out.1; omega
            have hi8 := p0
            have q4 := eq_true p0
            have q5 := eq_true p1
            have q6 := eq_true hi
            have Hi := Aside0.mk hi
            generalize l0[i] = x at *
            clear p0 p1 hi er hi1 hl1
            cases gk with
            | zero => exact absurd HI.out (by have := Hi.out; omega)
            | succ k1 =>
              go_wp2_with (first
                | ((with_reducible refine gate_builtin (b := .append) (xs := #[.tmp 31, .tmp 32]) rfl ?_); at_builtin; refine Kd.R_append_rows (Kd.int .u8) (w0 := w) w.heap.size rfl (.tmp 31) (.tmp 32) 22 5 (.int .u8 0) 1 rfl Try.underlying22 infoT5 rfl (by decide) (by omega) _ (l0.take i).flatten x _ _ _ (fun _ => True) (fun _ => False) rfl rfl HR1.out HRi.out (fun _ _ h => h) (fun _ h => h.elim) (fun _ _ => trivial) HB.out HB.out.size (by have h1 := HLE.out; have h2 := HL.out.2; have h3 := HS.out; rw [h3, List.length_append] at h1; omega) ?_; intro v2 w2 hR2 hb2 _ _; have HR2 := Aside0.mk hR2; have HB2 := Aside0.mk hb2; clear hR2 hb2))
              go_roundg k1
              case measure => omega
              case rel => exact ⟨i + 1, by go_num, ⟨by rw [HS.out]; exact HR2.out⟩, ⟨by have := HI.out; omega⟩, HB2⟩
          · have q1 : decide ((i : Int) < (l0.length : Int)) = false := decide_eq_false (by omega)
            have e : i = l0.length := by have := HI.out; omega
            subst e
            rw [List.take_length] at HR1
            go_wp2
            go_ret
            exact ⟨_, rfl, HR1.out, HB.out⟩
  · rw [if_neg hb] at h; cases h
end Go.Proofs.Ytpfaaljmefgpbaa.Hand
end

section
set_option linter.unusedVariables false
set_option linter.unusedSimpArgs false
namespace Go.Proofs.Ytpfaaljmefgpbaa.Hand
open Go.Proofs.Ytpfaaljmefgpbaa.Plain Go.Proofs.Ytpfaaljmefgpbaa.GF Go.Proofs.Ytpfaaljmefgpbaa.LA Go.RowKit Go.Proofs.YtpfaaljmefgpbaaW.PrintWords Go.Proofs.YtpfaaljmefgpbaaW.PrintLast Go.Proofs.YtpfaaljmefgpbaaW.PrintMore
theorem isZero_all {l : List Int} : decide (leadN l < 0) = l.all (fun z => z == 0) := by
  by_cases h : ∀ x ∈ l, x = 0
  · rw [leadN_neg h, eq_comm]
    simpa using fun x hx => h x hx
  · have h2 : ∃ i, ∃ hi : i < l.length, l[i] ≠ 0 ∧ ∀ j (q : j < i), l[j] = 0 := by
      obtain ⟨x, hx⟩ := Classical.not_forall.1 h
      obtain ⟨hx, hn⟩ := Classical.not_imp.1 hx
      obtain ⟨i, hi, rfl⟩ := List.mem_iff_getElem.1 hx
      obtain ⟨m, hm, ⟨hml, hmn⟩, hlow⟩ := least (fun k => ∃ q : k < l.length, l[k] ≠ 0) i ⟨hi, hn⟩
      exact ⟨m, hml, hmn, fun j q => Classical.byContradiction fun e => hlow j q ⟨by omega, e⟩⟩
    obtain ⟨i, hi, h3, h4⟩ := h2
    rw [leadN_pos hi h3 h4, decide_eq_false (by omega), eq_comm, List.all_eq_false]
    exact ⟨_, List.getElem_mem hi, by simpa using h3⟩
set_option maxRecDepth 100000 in
theorem isZero_calls (A0 : Option Addr) (c0 : Nat) (l0 : List Int) (w : World) (hr0 : Kd.C (Kd.int .u8) w A0 l0.length l0) (hc0 : l0.length ≤ c0) (hl : l0.length < 9223372036854775807) :
    Calls Try.prog 22 #[.slice A0 l0.length c0] w fun e w' => e = .returned (.bool (l0.all fun z => z == 0)) ∧ Drawn0 w w' := by
  have HL := Aside0.mk (vector_Lead.calls A0 c0 l0 (leadN l0) w hr0 hc0 (by unfold vector_Lead.f; rw [if_pos hl]))
  have he := isZero_all (l := l0)
  clear hr0 hc0 hl
  generalize leadN l0 = z at *
  generalize (l0.all fun z => z == 0) = b at *
  go_enter Try.func22, Try.ntmps22
  go_wp2_with (go_at_call 21; with_reducible refine HL.out.mono ?_; rintro e w1 ⟨rfl, hd⟩)
  go_ret
  exact ⟨by rw [← he]; first | rfl | simp, hd⟩
def mis (l : List (List Int)) : Bool := l.any fun x => (x.length : Int) != ((rdR l 0).length : Int)
theorem fits_of {l : List (List Int)} (h : mis l = false) (hb : ∀ x ∈ l, areB x) : Fits (rdR l 0).length l := fun r hr => ⟨by have := List.any_eq_false.1 h r hr; simp at this; omega, hb r hr⟩
theorem reduce_mis {l : List (List Int)} (hl : l.length < 1000000000) (h : mis l = true) : matrix_Reduce.f l = some ([], 21) := by
  unfold mis at h
  unfold matrix_Reduce.f
  rw [if_pos hl, if_pos h]
theorem small_next (k : Nat) (h : k ≤ 1000000000) : wrap64 ((k : Int) + 1) = ((k + 1 : Nat) : Int) := by unfold wrap64; omega
theorem beside2 {a b : List (List Int)} (h : a.length + b.length < 1000000000) : span_beside.f [a, b] = matrix_Reduce.f (a ++ b) := by
  unfold span_beside.f slices_ConcatR.f
  rw [if_pos ⟨by simp, by simpa using h⟩]
  simp
theorem beside2_calls (A0 : Option Addr) (c0 : Nat) (a b : List (List Int)) (r1 : List (List Int)) (r2 : Int) (w : World) (hr0 : Kd.C rowsK w A0 2 [a, b]) (hc0 : 2 ≤ c0) (h : span_beside.f [a, b] = some (r1, r2)) :
    Calls Try.prog 19 #[.slice A0 2 c0] w fun e w' => ∃ v0_ : Value, e = .returned (.tuple #[v0_, .int .i64 r2]) ∧ Kd.S rowK 22 w' w.heap.size (fun _ => True) v0_ r1 ∧ Below w.heap.size w w' :=
  span_beside.calls A0 c0 [a, b] r1 r2 w hr0 hc0 h
set_option maxHeartbeats 4000000 in
set_option maxRecDepth 100000 in
theorem has_walk (A0 : Option Addr) (c0 : Nat) (l0 : List (List Int)) (A1 : Option Addr) (c1 : Nat) (l1 : List Int) (w : World) (Hl : Aside0 (Kd.C rowK w A0 l0.length l0)) (Cl : Aside0 (l0.length ≤ c0)) (Hv : Aside0 (Kd.C (Kd.int .u8) w A1 l1.length l1)) (Cv : Aside0 (l1.length ≤ c1))
    (n : Nat) (Rr B : List (List Int)) (P : Nat → Nat) (RF : Aside0 (Fits n Rr)) (VF : Aside0 (l1.length = n ∧ areB l1)) (K6 : Aside0 (n < 100000000 ∧ Rr.length < 1000000000)) (FB : Aside0 (span_beside.f [l0, [l1]] = some (B, 0))) (FR : Aside0 (matrix_Reduce.f l0 = some (Rr, 0))) (HPl : Aside0 (∀ i, i < Rr.length → P i < n ∧ leadN (Rr.getD i []) = ((P i : Nat) : Int))) :
    Calls Try.prog 7 #[.slice A0 l0.length c0, .slice A1 l1.length c1] w fun e w' => e = .returned (.tuple #[.bool ((leftL Rr l1 Rr.length).all fun z => z == 0), .int .i64 0]) ∧ Below w.heap.size w w' := by
  have HB := Aside0.mk (Below.refl w.heap.size w)
  go_enter Try.func7, Try.ntmps7
  go_upto_region 5 with (first
    | ((with_reducible refine gate_dst (N := 15) rfl ?_); (try (refine gate_guard (by rfl) ?_; dsimp only)); refine Kd.N_lit (rowK) _ 22 ?hg (N' := 15) ?hd (xs := [l1]) (inner := [.slice A1 l1.length c1]) (ok := fun _ => True) (okp := fun _ => True) ?hr (Reps.one (show Kd.FK (rowK) _ _ l1 [.slice A1 l1.length c1] from Kd.FK_slice_mk Cv.out (Kd.F_mono (Kd.C_F (Kd.heap_int _) Hv.out) (fun _ _ => trivial))) (Reps.none _ _)) (fun _ h => h) trivial (Below.refl _ _) (Nat.le_refl _) (by simp) ?_; (case hd => rfl); (case hg => rfl); (case hr => first | (go_simp; done) | (go_simp; rfl)); intro v_ w1 ho_ hb _ _; obtain ⟨AK, cK, rfl⟩ := Kd.N_slice ho_; have HK := Aside0.mk (show Kd.C (rowK) w1 AK 1 [l1] from (Kd.N_reads' ho_).2.2); have CK := Aside0.mk (show 1 ≤ cK from (Kd.N_reads' ho_).2.1); clear ho_; replace Hl := Aside0.mk (Kd.C_below Hl.out hb); replace Hv := Aside0.mk (Kd.C_below Hv.out hb); replace HB := Aside0.mk (HB.out.trans (hb.mono HB.out.size)); clear hb)
    | ((with_reducible refine gate_dst (N := 16) rfl ?_); (try (refine gate_guard (by rfl) ?_; dsimp only)); refine Kd.N_lit (rowsK) _ 24 ?hg (N' := 16) ?hd (xs := [l0, [l1]]) (inner := [.slice A0 l0.length c0, .slice AK 1 cK]) (ok := fun _ => True) (okp := fun _ => True) ?hr (Reps.one (show Kd.FK (rowsK) _ _ l0 [.slice A0 l0.length c0] from Kd.FK_slice_mk Cl.out (Kd.F_mono (Kd.C_F (Kd.heap_slice _ (Kd.heap_int _)) Hl.out) (fun _ _ => trivial))) (Reps.one (show Kd.FK (rowsK) _ _ [l1] [.slice AK 1 cK] from Kd.FK_slice_mk CK.out (Kd.F_mono (Kd.C_F (Kd.heap_slice _ (Kd.heap_int _)) HK.out) (fun _ _ => trivial))) (Reps.none _ _))) (fun _ h => h) trivial (Below.refl _ _) (Nat.le_refl _) (by simp) ?_; (case hd => rfl); (case hg => rfl); (case hr => first | (go_simp; done) | (go_simp; rfl)); intro v_ w2 ho_ hb _ _; obtain ⟨AM, cM, rfl⟩ := Kd.N_slice ho_; have HM := Aside0.mk (show Kd.C (rowsK) w2 AM 2 [l0, [l1]] from (Kd.N_reads' ho_).2.2); have CM := Aside0.mk (show 2 ≤ cM from (Kd.N_reads' ho_).2.1); clear ho_; replace Hl := Aside0.mk (Kd.C_below Hl.out hb); replace Hv := Aside0.mk (Kd.C_below Hv.out hb); replace HB := Aside0.mk (HB.out.trans (hb.mono HB.out.size)); clear hb)
    | (go_at_call 19; with_reducible refine (beside2_calls AM cM l0 ([l1]) B 0 _ HM.out CM.out FB.out).mono ?_; rintro e w3 ⟨v_, rfl, ho_, hb⟩; obtain ⟨AQ, cQ, rfl⟩ := Kd.S_slice ho_; have HQ := Aside0.mk (Kd.S_reads' ho_).2.2; have CQ := Aside0.mk (Kd.S_reads' ho_).2.1; clear ho_; replace Hl := Aside0.mk (Kd.C_below Hl.out hb); replace Hv := Aside0.mk (Kd.C_below Hv.out hb); replace HB := Aside0.mk (HB.out.trans (hb.mono HB.out.size)); clear hb)
    | (go_at_call 10; with_reducible refine (matrix_Reduce.calls A0 c0 l0 Rr 0 _ Hl.out Cl.out FR.out).mono ?_; rintro e w5 ⟨v_, rfl, ho_, hb⟩; obtain ⟨AR, cR, rfl⟩ := Kd.S_slice ho_; have HR := Aside0.mk (Kd.S_reads' ho_).2.2; have CR := Aside0.mk (Kd.S_reads' ho_).2.1; clear ho_; replace Hv := Aside0.mk (Kd.C_below Hv.out hb); replace HB := Aside0.mk (HB.out.trans (hb.mono HB.out.size)); clear hb))
  go_wp2
  go_loopg [30, 1] Rr.length (fun kq v30 v1 w' => ∃ (k : Nat) (A : Option Addr) (c : Nat) (l : List Int), v30 = .int .i64 (k : Int) ∧ v1 = .slice A l.length c ∧ Aside0 (kq + k = Rr.length) ∧ Aside0 (l = leftL Rr l1 k) ∧ Aside0 (l.length ≤ c) ∧ Aside0 (Kd.C (Kd.int .u8) w' A l.length l) ∧ Aside0 (Below w5.heap.size w5 w'))
  case atStart => exact ⟨0, A1, c1, l1, rfl, rfl, ⟨by omega⟩, ⟨rfl⟩, Cv, Hv, ⟨Below.refl _ _⟩⟩
  case round =>
    clear Hv Cv
    obtain ⟨k, Al, cl, l, rfl, rfl, HK, HL, HLC, HC, HW⟩ := hrel
    by_cases hk : k < Rr.length
    · have p0 : (0 : Int) ≤ (k : Int) := Int.natCast_nonneg _
      have p1 : (k : Int) < (Rr.length : Int) := Int.ofNat_lt.2 hk
      have q1 : decide ((k : Int) < (Rr.length : Int)) = true := decide_eq_true p1
      obtain ⟨bd, Bk, ck, e2, hx2, hl2, hi2⟩ := at_R HR.out (k : Int) p0 p1
      cases e2
      have er : rdR Rr (k : Int) = Rr.getD k [] := by unfold rdR; rw [Int.toNat_natCast]
      rw [er] at hx2 hl2 hi2
      rw [Int.toNat_natCast] at hx2
      replace hx2 := (HW.out.cell (World.block_lt_of_cell? _ _ hx2)).trans hx2
      have HY := Aside0.mk (Kd.C_below hi2 HW.out)
      have Hl2_ := Aside0.mk hl2
      have ry := getD_fits RF.out hk
      obtain ⟨b1, b2⟩ := HPl.out k hk
      have hll := leftL_fits RF.out VF.out k (Nat.le_of_lt hk)
      rw [← HL.out] at hll
      have HLead := Aside0.mk (show vector_Lead.f (Rr.getD k []) = some ((P k : Nat) : Int) from by
        unfold vector_Lead.f; rw [if_pos (by have := K6.out; omega), b2])
      have HNext := Aside0.mk (show addS l (Rr.getD k []) (rd l ((P k : Nat) : Int)) = leftL Rr l1 (k + 1) from by
        show _ = addS (leftL Rr l1 k) (Rr.getD k []) ((leftL Rr l1 k).getD (leadN (Rr.getD k [])).toNat 0)
        rw [b2, Int.toNat_natCast, ← HL.out]; unfold rd; rw [Int.toNat_natCast])
      have HAS := Aside0.mk (show vector_AddScaled.f l (Rr.getD k []) (rd l ((P k : Nat) : Int)) = some (addS l (Rr.getD k []) (rd l ((P k : Nat) : Int)), 0) from by
        unfold vector_AddScaled.f
        rw [if_pos (by rw [hll.1, ry.1]), if_pos ⟨by unfold vN; have := K6.out; omega, ry.2, rd_B hll.2 _⟩]; rfl)
      have hnk := small_next k (by have := K6.out; omega)
      have pl0 : (0 : Int) ≤ ((P k : Nat) : Int) := Int.natCast_nonneg _
      have pl1 : ((P k : Nat) : Int) < (l.length : Int) := by rw [hll.1]; exact Int.ofNat_lt.2 b1
      obtain ⟨adl, ei, hxl⟩ := Kd.at_int HC.out ((P k : Nat) : Int) pl0 pl1
      cases ei
      rw [Int.toNat_natCast] at hxl
      have HLen := Aside0.mk (show (addS l (Rr.getD k []) (rd l ((P k : Nat) : Int))).length = l.length from by unfold addS; rw [List.length_zipWith, hll.1, ry.1, Nat.min_self])
      have q4 := eq_true p0
      have q5 := eq_true p1
      have q6 := eq_true hk
      have q7 := eq_true pl0
      have q8 := eq_true pl1
      have q9 := eq_true (Int.ofNat_lt.1 pl1)
      have Hk := Aside0.mk hk
      have Hxl := Aside0.mk hxl
      clear p0 p1 hk er hi2 hl2 ry b1 b2 hll pl0 pl1 hxl
      generalize Rr.getD k [] = y at *
      generalize rd l ((P k : Nat) : Int) = xl at *
      cases gk with
      | zero => exact absurd HK.out (by have := Hk.out; omega)
      | succ k2 =>
      go_wp2_with (first
        | (go_at_call 21; with_reducible refine (vector_Lead.calls Bk ck y ((P k : Nat) : Int) _ HY.out Hl2_.out HLead.out).mono ?_; rintro e w6 ⟨rfl, hd⟩; have hb := drawn_below hd; clear hd hx2; replace HC := Aside0.mk (Kd.C_below HC.out hb); replace HY := Aside0.mk (Kd.C_below HY.out hb); replace HW := Aside0.mk (HW.out.trans (hb.mono HW.out.size)); have hxl := (hb.cell (World.block_lt_of_cell? _ _ Hxl.out)).trans Hxl.out; clear hb)
        | (go_at_call 20; with_reducible refine (vector_AddScaled.calls (some adl) cl l Bk ck y xl (addS l y xl) 0 _ HC.out HLC.out HY.out Hl2_.out HAS.out).mono ?_; rintro e w7 ⟨v0, rfl, hR, hb⟩; obtain ⟨An, cn, rfl⟩ := Kd.R_slice hR; have Hn := Aside0.mk (Kd.R_reads' hR).2.2; have Cn := Aside0.mk (Kd.R_reads' hR).2.1; replace HW := Aside0.mk (HW.out.trans (hb.mono HW.out.size)); clear hR hb))
      go_roundg k2
      case measure => omega
      case rel => exact ⟨k + 1, An, cn, _, by first | rfl | rw [hnk], by first | rfl | (rw [HLen.out]), ⟨by have := HK.out; omega⟩, HNext, Cn, Hn, HW⟩
    · have q1 : decide ((k : Int) < (Rr.length : Int)) = false := decide_eq_false (by omega)
      have q2 : decide (k < Rr.length) = false := decide_eq_false hk
      have q3 := eq_false hk
      have ek : k = Rr.length := by have := HK.out; omega
      have hll := leftL_fits RF.out VF.out k (by omega)
      rw [← HL.out] at hll
      have HLL := Aside0.mk (show l.length < 9223372036854775807 from by have := K6.out; omega)
      have HE := Aside0.mk (show leftL Rr l1 Rr.length = l from by rw [HL.out, ek])
      clear hk HK ek hll
      go_wp2_with (go_at_call 22; with_reducible refine (isZero_calls Al cl l _ HC.out HLC.out HLL.out).mono ?_; rintro e w6 ⟨rfl, hd⟩; have hb := drawn_below hd; replace HW := Aside0.mk (HW.out.trans (hb.mono HW.out.size)); clear hb hd)
      go_ret2
      exact ⟨by rw [HE.out]; rfl, HB.out.trans (HW.out.mono HB.out.size)⟩
set_option maxHeartbeats 2000000 in
set_option maxRecDepth 100000 in
theorem has_err (A0 : Option Addr) (c0 : Nat) (l0 : List (List Int)) (A1 : Option Addr) (c1 : Nat) (l1 : List Int) (w : World) (Hl : Aside0 (Kd.C rowK w A0 l0.length l0)) (Cl : Aside0 (l0.length ≤ c0)) (Hv : Aside0 (Kd.C (Kd.int .u8) w A1 l1.length l1)) (Cv : Aside0 (l1.length ≤ c1))
    (B : List (List Int)) (FB : Aside0 (span_beside.f [l0, [l1]] = some (B, 21))) :
    Calls Try.prog 7 #[.slice A0 l0.length c0, .slice A1 l1.length c1] w fun e w' => e = .returned (.tuple #[.bool false, .int .i64 21]) ∧ Below w.heap.size w w' := by
  have HB := Aside0.mk (Below.refl w.heap.size w)
  go_enter Try.func7, Try.ntmps7
  go_wp2_with (first
    | ((with_reducible refine gate_dst (N := 15) rfl ?_); (try (refine gate_guard (by rfl) ?_; dsimp only)); refine Kd.N_lit (rowK) _ 22 ?hg (N' := 15) ?hd (xs := [l1]) (inner := [.slice A1 l1.length c1]) (ok := fun _ => True) (okp := fun _ => True) ?hr (Reps.one (show Kd.FK (rowK) _ _ l1 [.slice A1 l1.length c1] from Kd.FK_slice_mk Cv.out (Kd.F_mono (Kd.C_F (Kd.heap_int _) Hv.out) (fun _ _ => trivial))) (Reps.none _ _)) (fun _ h => h) trivial (Below.refl _ _) (Nat.le_refl _) (by simp) ?_; (case hd => rfl); (case hg => rfl); (case hr => first | (go_simp; done) | (go_simp; rfl)); intro v_ w1 ho_ hb _ _; obtain ⟨AK, cK, rfl⟩ := Kd.N_slice ho_; have HK := Aside0.mk (show Kd.C (rowK) w1 AK 1 [l1] from (Kd.N_reads' ho_).2.2); have CK := Aside0.mk (show 1 ≤ cK from (Kd.N_reads' ho_).2.1); clear ho_; replace Hl := Aside0.mk (Kd.C_below Hl.out hb); replace Hv := Aside0.mk (Kd.C_below Hv.out hb); replace HB := Aside0.mk (HB.out.trans (hb.mono HB.out.size)); clear hb)
    | ((with_reducible refine gate_dst (N := 16) rfl ?_); (try (refine gate_guard (by rfl) ?_; dsimp only)); refine Kd.N_lit (rowsK) _ 24 ?hg (N' := 16) ?hd (xs := [l0, [l1]]) (inner := [.slice A0 l0.length c0, .slice AK 1 cK]) (ok := fun _ => True) (okp := fun _ => True) ?hr (Reps.one (show Kd.FK (rowsK) _ _ l0 [.slice A0 l0.length c0] from Kd.FK_slice_mk Cl.out (Kd.F_mono (Kd.C_F (Kd.heap_slice _ (Kd.heap_int _)) Hl.out) (fun _ _ => trivial))) (Reps.one (show Kd.FK (rowsK) _ _ [l1] [.slice AK 1 cK] from Kd.FK_slice_mk CK.out (Kd.F_mono (Kd.C_F (Kd.heap_slice _ (Kd.heap_int _)) HK.out) (fun _ _ => trivial))) (Reps.none _ _))) (fun _ h => h) trivial (Below.refl _ _) (Nat.le_refl _) (by simp) ?_; (case hd => rfl); (case hg => rfl); (case hr => first | (go_simp; done) | (go_simp; rfl)); intro v_ w2 ho_ hb _ _; obtain ⟨AM, cM, rfl⟩ := Kd.N_slice ho_; have HM := Aside0.mk (show Kd.C (rowsK) w2 AM 2 [l0, [l1]] from (Kd.N_reads' ho_).2.2); have CM := Aside0.mk (show 2 ≤ cM from (Kd.N_reads' ho_).2.1); clear ho_; replace Hl := Aside0.mk (Kd.C_below Hl.out hb); replace Hv := Aside0.mk (Kd.C_below Hv.out hb); replace HB := Aside0.mk (HB.out.trans (hb.mono HB.out.size)); clear hb)
    | (go_at_call 19; with_reducible refine (beside2_calls AM cM l0 ([l1]) B 21 _ HM.out CM.out FB.out).mono ?_; rintro e w3 ⟨v_, rfl, ho_, hb⟩; obtain ⟨AQ, cQ, rfl⟩ := Kd.S_slice ho_; have HQ := Aside0.mk (Kd.S_reads' ho_).2.2; have CQ := Aside0.mk (Kd.S_reads' ho_).2.1; clear ho_; replace Hl := Aside0.mk (Kd.C_below Hl.out hb); replace Hv := Aside0.mk (Kd.C_below Hv.out hb); replace HB := Aside0.mk (HB.out.trans (hb.mono HB.out.size)); clear hb))
  go_ret2
  exact ⟨rfl, HB.out⟩
def span_Has.f (l0 : List (List Int)) (l1 : List Int) : Option (Bool × Int) :=
  if l0.length < 100000000 ∧ l1.length < 100000000 ∧ areB l1 ∧ ∀ x ∈ l0, areB x then (if mis (l0 ++ [l1]) = true then some (false, 21) else some (hasB l0 l1, 0)) else none
theorem fits_left {a b : List (List Int)} {n : Nat} (h : Fits n (a ++ b)) : Fits n a := fun r hr => h r (List.mem_append_left _ hr)
theorem fits_right {a b : List (List Int)} {n : Nat} (h : Fits n (a ++ b)) : Fits n b := fun r hr => h r (List.mem_append_right _ hr)
theorem lead_at {n : Nat} {l : List (List Int)} (hl : Fits n l) : ∃ P : Nat → Nat, Fits n (redRows l n) ∧ (redRows l n).length ≤ l.length ∧ ∀ i, i < (redRows l n).length → P i < n ∧ leadN ((redRows l n).getD i []) = ((P i : Nat) : Int) := by
  obtain ⟨p, h1, h2, h3, h4⟩ := redRows_spec hl
  exact ⟨fun i => p.getD i 0, h3, h4, fun i hi => ⟨(red_lead h3 h1 hi).1, (red_lead h3 h1 hi).2.1⟩⟩
theorem span_Has.calls (A0 : Option Addr) (c0 : Nat) (l0 : List (List Int)) (A1 : Option Addr) (c1 : Nat) (l1 : List Int) (r1 : Bool) (r2 : Int) (w : World) (hr0 : Kd.C (Kd.slice 5 (Kd.int .u8)) w A0 l0.length l0) (hc0 : l0.length ≤ c0) (hr1 : Kd.C (Kd.int .u8) w A1 l1.length l1) (hc1 : l1.length ≤ c1) (h : span_Has.f l0 l1 = some (r1, r2)) :
    Calls Try.prog 7 #[.slice A0 l0.length c0, .slice A1 l1.length c1] w fun e w' => e = .returned (.tuple #[.bool r1, .int .i64 r2]) ∧ Below w.heap.size w w' := by
  unfold span_Has.f at h
  by_cases hb : l0.length < 100000000 ∧ l1.length < 100000000 ∧ areB l1 ∧ ∀ x ∈ l0, areB x
  · rw [if_pos hb] at h
    have e2 := beside2 (a := l0) (b := [l1]) (by simp; omega)
    by_cases hm : mis (l0 ++ [l1]) = true
    · rw [if_pos hm] at h
      simp only [Option.some.injEq, Prod.mk.injEq] at h
      obtain ⟨rfl, rfl⟩ := h
      exact has_err A0 c0 l0 A1 c1 l1 w ⟨hr0⟩ ⟨hc0⟩ ⟨hr1⟩ ⟨hc1⟩ [] ⟨by rw [e2]; exact reduce_mis (by simp; omega) hm⟩
    · rw [if_neg hm] at h
      simp only [Option.some.injEq, Prod.mk.injEq] at h
      obtain ⟨rfl, rfl⟩ := h
      have hF := fits_of (Bool.eq_false_iff.2 hm) (fun x hx => (List.mem_append.1 hx).elim (hb.2.2.2 x) (fun q => by rw [List.mem_singleton.1 q]; exact hb.2.2.1))
      have hv := fits_right hF l1 (List.mem_singleton.2 rfl)
      rw [← hv.1] at hF
      have hl := fits_left hF
      obtain ⟨P, k1, k2, k3⟩ := lead_at hl
      exact has_walk A0 c0 l0 A1 c1 l1 w ⟨hr0⟩ ⟨hc0⟩ ⟨hr1⟩ ⟨hc1⟩ l1.length (redRows l0 l1.length) _ P ⟨k1⟩ ⟨rfl, hv.2⟩ ⟨hb.2.1, by omega⟩ ⟨by rw [e2]; exact reduce_f hF (by simp; omega) (by omega)⟩ ⟨reduce_f hl (by omega) (by omega)⟩ ⟨k3⟩
  · rw [if_neg hb] at h; cases h
theorem fits_mis {l : List (List Int)} {n : Nat} (h : Fits n l) : mis l = false := any_len h
theorem has_f {n : Nat} {l : List (List Int)} (hl : Fits n l) {v : List Int} (hv : v.length = n ∧ areB v) (hn : n < 100000000) (hk : l.length < 100000000) : span_Has.f l v = some (hasB l v, 0) := by
  unfold span_Has.f
  rw [if_pos ⟨hk, by omega, hv.2, fun x hx => (hl x hx).2⟩, if_neg]
  rw [fits_mis (n := n) (fun r hr => (List.mem_append.1 hr).elim (hl r) (fun q => by rw [List.mem_singleton.1 q]; exact hv))]
  decide
end Go.Proofs.Ytpfaaljmefgpbaa.Hand
end

section
set_option linter.unusedVariables false
set_option linter.unusedSimpArgs false
namespace Go.Proofs.Ytpfaaljmefgpbaa.Hand
open Go.RowKit Go.Proofs.YtpfaaljmefgpbaaW.PrintWords Go.Proofs.YtpfaaljmefgpbaaW.PrintLast Go.Proofs.YtpfaaljmefgpbaaW.PrintMore
theorem new_F {W W' : World} {v : Value} {xs : List Int} (h : Kd.R (Kd.int .u8) 5 W' W.heap.size (fun _ => True) v xs) : ∃ A c, v = .slice A xs.length c ∧ xs.length ≤ c ∧ Kd.F (Kd.int .u8) W' (fun k => W.heap.size ≤ k) A xs.length xs := by
  obtain ⟨A, c, rfl, hl, _⟩ := Kd.R_reads h
  exact ⟨A, c, rfl, hl, Kd.R_F (Kd.R_mono (Kd.R_bound h) fun k hk => hk.2.1)⟩
theorem box0 {W : World} {g : Nat} {u v : Value} {T : TypeId} (h : W.heap[g]? = some (.cells #[u, v] T (0, 0))) : W.cell? ⟨g, 0, none⟩ = some u := by simp [World.cell?, h]
theorem box1 {W : World} {g : Nat} {u v : Value} {T : TypeId} (h : W.heap[g]? = some (.cells #[u, v] T (0, 0))) : W.cell? ⟨g, 1, none⟩ = some v := by simp [World.cell?, h]
theorem boxF {W : World} {g : Nat} {cs : Array Value} {T : TypeId} (h : W.heap[g]? = some (.cells cs T (0, 0))) (j : Nat) : W.frozen? ⟨g, j, none⟩ = false := by simp [World.frozen?, h]
theorem box_step {W W' : World} {g : Nat} {o : Obj} (h : Aside0 (W.heap[g]? = some o)) (hb : Below W.heap.size W W') : Aside0 (W'.heap[g]? = some o) := ⟨(hb.block g (WorkIs.heap_lt' h.out)).trans h.out⟩
theorem alloc_at (w : World) (cs : Array Value) (T : TypeId) {n : Nat} (hn : n = w.heap.size) : (w.alloc (.cells cs T)).heap[n]? = some (.cells cs T (0, 0)) := by
  subst hn
  show (w.heap.push _)[w.heap.size]? = some _
  simp
theorem alloc_old {w : World} {g : Nat} {o : Obj} (h : w.heap[g]? = some o) (p : Obj) : (w.alloc p).heap[g]? = some o := ((below_alloc (Below.refl w.heap.size w) p).block g (WorkIs.heap_lt' h)).trans h
theorem alloc_size (w : World) (o : Obj) : (w.alloc o).heap.size = w.heap.size + 1 := by simp
theorem box_set {W : World} {g : Nat} {u v u' v' : Value} {T : TypeId} (h : W.heap[g]? = some (.cells #[u, v] T (0, 0))) : ((W.setCell ⟨g, 0, none⟩ u').setCell ⟨g, 1, none⟩ v').heap[g]? = some (.cells #[u', v'] T (0, 0)) := by
  simp [World.setCell, Array.getElem?_modify, h]
set_option maxHeartbeats 4000000 in
set_option maxRecDepth 100000 in
theorem plus_calls (A1 : Option Addr) (c1 : Nat) (a1 : List Int) (A2 : Option Addr) (c2 : Nat) (a2 : List Int) (A3 : Option Addr) (c3 : Nat) (b1 : List Int) (A4 : Option Addr) (c4 : Nat) (b2 : List Int) (k : Int) (r1 r2 : List Int) (w : World)
    (H1 : Aside0 (Kd.C (Kd.int .u8) w A1 a1.length a1)) (C1 : Aside0 (a1.length ≤ c1)) (H2 : Aside0 (Kd.C (Kd.int .u8) w A2 a2.length a2)) (C2 : Aside0 (a2.length ≤ c2)) (H3 : Aside0 (Kd.C (Kd.int .u8) w A3 b1.length b1)) (C3 : Aside0 (b1.length ≤ c3)) (H4 : Aside0 (Kd.C (Kd.int .u8) w A4 b2.length b2)) (C4 : Aside0 (b2.length ≤ c4))
    (E1 : Aside0 (vector_AddScaled.f a1 b1 k = some (r1, 0))) (E2 : Aside0 (vector_AddScaled.f a2 b2 k = some (r2, 0))) :
    Calls Try.prog 29 #[.agg #[.slice A1 a1.length c1, .slice A2 a2.length c2], .agg #[.slice A3 b1.length c3, .slice A4 b2.length c4], .int .u8 k] w fun e w' => ∃ (A5 : Option Addr) (c5 : Nat) (A6 : Option Addr) (c6 : Nat), e = .returned (.agg #[.slice A5 r1.length c5, .slice A6 r2.length c6]) ∧ r1.length ≤ c5 ∧ r2.length ≤ c6 ∧ Kd.F (Kd.int .u8) w' (fun j => w.heap.size ≤ j) A5 r1.length r1 ∧ Kd.F (Kd.int .u8) w' (fun j => w.heap.size ≤ j) A6 r2.length r2 ∧ Below w.heap.size w w' := by
  go_enter Try.func29, Try.ntmps29
  go_upto_region 1 with fail
  have HB := Aside0.mk (show Below w.heap.size w (((w.alloc (.cells #[.slice A1 a1.length c1, .slice A2 a2.length c2] 35)).alloc (.cells #[.slice A3 b1.length c3, .slice A4 b2.length c4] 35)).alloc (.cells #[.slice none 0 0, .slice none 0 0] 35)) from below_alloc (below_alloc (below_alloc (Below.refl _ _) _) _) _)
  have K1 := Aside0.mk (alloc_old (alloc_old (alloc_at w #[.slice A1 a1.length c1, .slice A2 a2.length c2] 35 rfl) (.cells #[.slice A3 b1.length c3, .slice A4 b2.length c4] 35)) (.cells #[.slice none 0 0, .slice none 0 0] 35))
  have K2 := Aside0.mk (alloc_old (alloc_at (w.alloc (.cells #[.slice A1 a1.length c1, .slice A2 a2.length c2] 35)) #[.slice A3 b1.length c3, .slice A4 b2.length c4] 35 (n := w.heap.size + 1) (alloc_size _ _).symm) (.cells #[.slice none 0 0, .slice none 0 0] 35))
  have K3 := Aside0.mk (alloc_at ((w.alloc (.cells #[.slice A1 a1.length c1, .slice A2 a2.length c2] 35)).alloc (.cells #[.slice A3 b1.length c3, .slice A4 b2.length c4] 35)) #[.slice none 0 0, .slice none 0 0] 35 (n := w.heap.size + 1 + 1) (by rw [alloc_size, alloc_size]))
  generalize ((w.alloc (.cells #[.slice A1 a1.length c1, .slice A2 a2.length c2] 35)).alloc (.cells #[.slice A3 b1.length c3, .slice A4 b2.length c4] 35)).alloc (.cells #[.slice none 0 0, .slice none 0 0] 35) = w1 at HB K1 K2 K3 ⊢
  have HS := Aside0.mk (show w.heap.size + 1 + 1 < w1.heap.size from WorkIs.heap_lt' K3.out)
  have HB1 := Aside0.mk (Below.refl w1.heap.size w1)
  replace H1 := Aside0.mk (Kd.C_below H1.out HB.out)
  replace H2 := Aside0.mk (Kd.C_below H2.out HB.out)
  replace H3 := Aside0.mk (Kd.C_below H3.out HB.out)
  replace H4 := Aside0.mk (Kd.C_below H4.out HB.out)
  have x1 := box0 K1.out
  have x2 := box0 K2.out
  go_upto_region 2 with (go_at_call 20; with_reducible refine (vector_AddScaled.calls A1 c1 a1 A3 c3 b1 k r1 0 _ H1.out C1.out H3.out C3.out E1.out).mono ?_; rintro e w2 ⟨v_, rfl, hR, hb⟩; obtain ⟨A5, c5, rfl, hl, hf⟩ := new_F hR; have L5 := Aside0.mk hl; have F5 := Aside0.mk hf; replace HB1 := Aside0.mk hb; replace H2 := Aside0.mk (Kd.C_below H2.out hb); replace H4 := Aside0.mk (Kd.C_below H4.out hb); replace K1 := box_step K1 hb; replace K2 := box_step K2 hb; replace K3 := box_step K3 hb; replace HB := Aside0.mk (HB.out.trans (hb.mono HB.out.size)); clear hR hb hl hf x1 x2; have x1 := box1 K1.out; have x2 := box1 K2.out)
  go_upto_region 3 with (go_at_call 20; with_reducible refine (vector_AddScaled.calls A2 c2 a2 A4 c4 b2 k r2 0 _ H2.out C2.out H4.out C4.out E2.out).mono ?_; rintro e w3 ⟨v_, rfl, hR, hb⟩; obtain ⟨A6, c6, rfl, hl, hf⟩ := new_F hR; have L6 := Aside0.mk hl; have F6 := Aside0.mk (Kd.F_mono hf (fun j hj => Nat.le_trans HB1.out.size hj)); replace F5 := Aside0.mk (Kd.F_below F5.out hb); replace K3 := box_step K3 hb; replace HB := Aside0.mk (HB.out.trans (hb.mono HB.out.size)); clear hR hb hl hf x1 x2)
  have y0 := box0 K3.out
  have y1 := box1 K3.out
  have z0 := boxF K3.out 0
  have z1 := boxF K3.out 1
  go_wp2
  clear y0 y1 z0 z1
  have hfar : ∀ j, w1.heap.size ≤ j → j ≠ w.heap.size + 1 + 1 := fun j hj => by have := HS.out; omega
  replace F5 := Aside0.mk (Kd.F_far (Kd.F_far F5.out (p := ⟨w.heap.size + 1 + 1, 0, none⟩) hfar (.slice A5 r1.length c5)) (p := ⟨w.heap.size + 1 + 1, 1, none⟩) hfar (.slice A6 r2.length c6))
  replace F6 := Aside0.mk (Kd.F_far (Kd.F_far F6.out (p := ⟨w.heap.size + 1 + 1, 0, none⟩) hfar (.slice A5 r1.length c5)) (p := ⟨w.heap.size + 1 + 1, 1, none⟩) hfar (.slice A6 r2.length c6))
  replace K3 := Aside0.mk (box_set (u' := .slice A5 r1.length c5) (v' := .slice A6 r2.length c6) K3.out)
  replace HB := Aside0.mk ((HB.out.setCell (p := ⟨w.heap.size + 1 + 1, 0, none⟩) (show w.heap.size ≤ w.heap.size + 1 + 1 by omega) (.slice A5 r1.length c5)).setCell (p := ⟨w.heap.size + 1 + 1, 1, none⟩) (show w.heap.size ≤ w.heap.size + 1 + 1 by omega) (.slice A6 r2.length c6))
  generalize ((w3.setCell ⟨w.heap.size + 1 + 1, 0, none⟩ (.slice A5 r1.length c5)).setCell ⟨w.heap.size + 1 + 1, 1, none⟩ (.slice A6 r2.length c6)) = w4 at F5 F6 K3 HB ⊢
  have hmo : ∀ j, w1.heap.size ≤ j → w.heap.size ≤ j := fun j hj => by have := HS.out; omega
  (try simp only [Exit.inBlock, Exit.then])
  refine bodyPost_ret (results_cell_row rfl _ _ (w.heap.size + 1 + 1) 35 #[.slice A5 r1.length c5, .slice A6 r2.length c6] (0, 0) _ rfl K3.out Try.underlying35 rfl infoBS) rfl ?_
  exact ⟨A5, c5, A6, c6, rfl, L5.out, L6.out, Kd.F_mono F5.out hmo, Kd.F_mono F6.out hmo, HB.out⟩
end Go.Proofs.Ytpfaaljmefgpbaa.Hand
end
