/- QSC, part 14: HConcat. -/
import Derived.Test.YthgpmneplpdeiaaQSC8
import Derived.Test.YthgpmneplpdeiaaQSC13

section
set_option linter.unusedVariables false
set_option linter.unusedSimpArgs false
namespace Go.Proofs.Ythgpmneplpdeiaa.Hand
open Go.RowKit Go.Proofs.YthgpmneplpdeiaaW.PrintWords Go.Proofs.YthgpmneplpdeiaaW.PrintLast Go.Proofs.YthgpmneplpdeiaaW.PrintMore
set_option maxHeartbeats 2000000 in
set_option maxRecDepth 100000 in
theorem grow_calls (n : Nat) (w : World) (hn : n < 100000000000) :
    Calls Try.prog 61 #[.slice none 0 0, .int .i64 (n : Int)] w fun e w' => ∃ v : Value, e = .returned v ∧ Kd.R (Kd.int .u8) 5 w' w.heap.size (fun _ => True) v [] ∧ Below w.heap.size w w' := by
  obtain ⟨info, hinfo, -⟩ := Option.map_eq_some_iff.1 infoT5
  have hc1 := cut_to (P := Try.prog) 23 5 .i64 Try.underlying23 hinfo none 0 0 0 (by omega) (by omega) (Nat.zero_le _)
  have q1 : ((n : Int) < 0) = False := eq_false (by omega)
  have q2 : decide ((n : Int) < 0) = false := decide_eq_false (by omega)
  by_cases h0 : n = 0
  · subst h0
    go_enter Try.func61, Try.ntmps61
    go_wp2
    go_ret
    exact ⟨_, rfl, Kd.R_nil _ _ _ _ _, Below.refl _ _⟩
  · have q3 : decide ((n : Int) > 0) = true := decide_eq_true (by omega)
    have q4 : wrap64 ((n : Int)) = (n : Int) := by unfold wrap64; omega
    have q5 : (0 < n) = True := eq_true (by omega)
    have q6 : decide (0 < n) = true := decide_eq_true (by omega)
    have Hn := Aside0.mk hn
    have HC := Aside0.mk (fun (A : Option Addr) (c : Nat) (h : n ≤ c) => cut_to (P := Try.prog) 23 5 .i64 Try.underlying23 hinfo A n c 0 (by omega) (by omega) h)
    clear hn
    go_enter Try.func61, Try.ntmps61
    go_wp2_with (first
      | ((with_reducible refine gate_builtin (b := .append) (xs := #[.tmp 20, .tmp 21]) rfl ?_); at_builtin; refine Kd.R_append_zeros (Kd.int .u8) (w0 := w) w.heap.size rfl (.tmp 20) (.tmp 21) 23 3 5 (.int .u8 0) 1 rfl Try.underlying23 Try.underlying3 infoT5 rfl (by decide) (by decide) (.slice none 0 0) [] 0 (n : Int) (fun _ => True) rfl (congrArg (Value.int IntKind.i64) q4) rfl (fun _ _ => trivial) (Kd.R_nil _ _ _ _ _) (by omega) (Below.refl _ _) (Nat.le_refl _) (by have := Hn.out; rw [List.length_nil, Int.toNat_natCast]; omega) ?_; intro v1 w1 hR hb _ _; rw [List.nil_append] at hR; obtain ⟨A, c, rfl, hlc, _⟩ := Kd.R_reads hR; rw [List.length_replicate, Int.toNat_natCast] at hR hlc; have HR := Aside0.mk hR; have HB := Aside0.mk hb; have hcut := HC.out A c hlc; clear hR hb))
    go_ret
    refine ⟨_, rfl, ?_, HB.out⟩
    have := Kd.R_take (m := 0) HR.out (Nat.zero_le _)
    rwa [List.take_zero] at this
theorem flat_succ (l : List (List Int)) (i : Nat) (h : i < l.length) : (l.take (i + 1)).flatten = (l.take i).flatten ++ l[i] := by
  rw [List.take_add_one, List.getElem?_eq_getElem h, Option.toList_some, List.flatten_append]; simp only [List.flatten_cons, List.flatten_nil, List.append_nil]
theorem flat_le (l : List (List Int)) (i : Nat) : (l.take i).flatten.length ≤ l.flatten.length := by
  conv => rhs; rw [← List.take_append_drop i l, List.flatten_append]
  rw [List.length_append]; omega
def slices_Concat_byte_byte.f (l0 : List (List Int)) : Option (List Int) := if l0.length < 1000000000 ∧ l0.flatten.length < 100000000000 then some l0.flatten else none
set_option maxHeartbeats 4000000 in
set_option maxRecDepth 100000 in
theorem slices_Concat_byte_byte.calls (A0 : Option Addr) (c0 : Nat) (l0 : List (List Int)) (r : List Int) (w : World) (hr0 : Kd.C (Kd.slice 5 (Kd.int .u8)) w A0 l0.length l0) (hc0 : l0.length ≤ c0) (h : slices_Concat_byte_byte.f l0 = some r) :
    Calls Try.prog 41 #[.slice A0 l0.length c0] w fun e w' => ∃ v : Value, e = .returned v ∧ Kd.R (Kd.int .u8) 5 w' w.heap.size (fun _ => True) v r ∧ Below w.heap.size w w' := by
  unfold slices_Concat_byte_byte.f at h
  by_cases hb : l0.length < 1000000000 ∧ l0.flatten.length < 100000000000
  · rw [if_pos hb] at h
    obtain rfl := Option.some.inj h
    clear h
    have HR := Aside0.mk hr0
    have HC := Aside0.mk hc0
    have HL := Aside0.mk hb
    clear hr0 hc0 hb
    go_enter Try.func41, Try.ntmps41
    go_wp2
    go_loopg [11, 3] l0.length (fun kq v11 v3 w' => ∃ i : Nat, v11 = .int .i64 (i : Int) ∧ v3 = .int .i64 ((l0.take i).flatten.length : Int) ∧ Aside0 (kq + i = l0.length) ∧ w = w')
    case atStart => exact ⟨0, rfl, rfl, ⟨by omega⟩, rfl⟩
    case round =>
      obtain ⟨i, rfl, rfl, HI, rfl⟩ := hrel
      by_cases hi : i < l0.length
      · have q1 : decide ((i : Int) < (l0.length : Int)) = true := decide_eq_true (by omega)
        have p0 : (0 : Int) ≤ (i : Int) := by omega
        have p1 : (i : Int) < (l0.length : Int) := by omega
        obtain ⟨ad, Ai, ci, e1, hx1, hl1, hi1⟩ := at_R HR.out (i : Int) p0 p1
        cases e1
        have er : rdR l0 (i : Int) = l0[i] := by unfold rdR; rw [Int.toNat_natCast, List.getD_eq_getElem?_getD, List.getElem?_eq_getElem hi, Option.getD_some]
        rw [er, Int.toNat_natCast] at hx1
        have hs := flat_succ l0 i hi
        have hle := flat_le l0 (i + 1)
        rw [hs, List.length_append] at hle
        have hL := HL.out
        have HS := Aside0.mk hs
        have q2 : wrap64 (((l0.take i).flatten.length : Int) + (l0[i].length : Int)) = (((l0.take i).flatten.length + l0[i].length : Nat) : Int) := by unfold wrap64; omega
        have q3 : decide ((((l0.take i).flatten.length + l0[i].length : Nat) : Int) < 0) = false := decide_eq_false (by omega)
        have hi9 : (i : Int) ≤ 1000000000 := by have := HL.out.1; omega
        have hi8 := p0
        have q4 := eq_true p0
        have q5 := eq_true p1
        have q6 := eq_true hi
        have Hi := Aside0.mk hi
        generalize l0[i] = x at *
        clear hs hle hL p0 p1 hi er hi1 hl1
        cases gk with
        | zero => exact absurd HI.out (by have := Hi.out; omega)
        | succ k1 =>
          generalize hfl : (l0.take i).flatten.length = F at *
          generalize hll : x.length = lI at *
          go_wp2
          go_roundg k1
          case measure => omega
          case rel => exact ⟨i + 1, by go_num, by rw [HS.out, List.length_append, hfl, hll]; exact congrArg (Value.int IntKind.i64) q2, ⟨by have := HI.out; omega⟩, rfl⟩
      · have q1 : decide ((i : Int) < (l0.length : Int)) = false := decide_eq_false (by omega)
        have e : i = l0.length := by have := HI.out; omega
        subst e
        rw [List.take_length]
        clear hi
        obtain ⟨F, hF⟩ : ∃ F, F = l0.flatten.length := ⟨_, rfl⟩
        rw [← hF]
        have HG := Aside0.mk (fun W => grow_calls F W (by rw [hF]; exact HL.out.2))
        clear hF
        go_wp2_with (go_at_call 61; refine (HG.out _).mono ?_; rintro e w1 ⟨v, rfl, hR, hb⟩; have HR1 := Aside0.mk hR; have HB := Aside0.mk hb; clear hR hb)
        go_loopg [27, 6] l0.length (fun kq v27 v6 w' => ∃ i : Nat, v27 = .int .i64 (i : Int) ∧ Aside0 (Kd.R (Kd.int .u8) 5 w' w.heap.size (fun _ => True) v6 (l0.take i).flatten) ∧ Aside0 (kq + i = l0.length) ∧ Aside0 (Below w.heap.size w w'))
        case atStart => exact ⟨0, rfl, ⟨show Kd.R _ _ _ _ _ _ [] from HR1.out⟩, ⟨by omega⟩, HB⟩
        case round =>
          clear HR1 HB
          obtain ⟨i, rfl, HR1, HI, HB⟩ := hrel
          by_cases hi : i < l0.length
          · have q1 : decide ((i : Int) < (l0.length : Int)) = true := decide_eq_true (by omega)
            have p0 : (0 : Int) ≤ (i : Int) := by omega
            have p1 : (i : Int) < (l0.length : Int) := by omega
            obtain ⟨ad, Ai, ci, e1, hx1, hl1, hi1⟩ := at_R HR.out (i : Int) p0 p1
            cases e1
            have er : rdR l0 (i : Int) = l0[i] := by unfold rdR; rw [Int.toNat_natCast, List.getD_eq_getElem?_getD, List.getElem?_eq_getElem hi, Option.getD_some]
            rw [er] at hx1 hl1 hi1
            rw [Int.toNat_natCast] at hx1
            replace hx1 := (HB.out.cell (World.block_lt_of_cell? _ _ hx1)).trans hx1
            have HRi := Aside0.mk (Kd.C_below hi1 HB.out)
            have HS := Aside0.mk (flat_succ l0 i hi)
            have HLE := Aside0.mk (flat_le l0 (i + 1))
            have hi9 : (i : Int) ≤ 1000000000 := by have := HL.out.1; omega
            have hi8 := p0
            have q4 := eq_true p0
            have q5 := eq_true p1
            have q6 := eq_true hi
            have Hi := Aside0.mk hi
            generalize l0[i] = x at *
            clear p0 p1 hi er hi1 hl1
            cases gk with
            | zero => exact absurd HI.out (by have := Hi.out; omega)
            | succ k1 =>
              go_wp2_with (first
                | ((with_reducible refine gate_builtin (b := .append) (xs := #[.tmp 31, .tmp 32]) rfl ?_); at_builtin; refine Kd.R_append_rows (Kd.int .u8) (w0 := w) w.heap.size rfl (.tmp 31) (.tmp 32) 23 5 (.int .u8 0) 1 rfl Try.underlying23 infoT5 rfl (by decide) (by omega) _ (l0.take i).flatten x _ _ _ (fun _ => True) (fun _ => False) rfl rfl HR1.out HRi.out (fun _ _ h => h) (fun _ h => h.elim) (fun _ _ => trivial) HB.out HB.out.size (by have h1 := HLE.out; have h2 := HL.out.2; have h3 := HS.out; rw [h3, List.length_append] at h1; omega) ?_; intro v2 w2 hR2 hb2 _ _; have HR2 := Aside0.mk hR2; have HB2 := Aside0.mk hb2; clear hR2 hb2))
              go_roundg k1
              case measure => omega
              case rel => exact ⟨i + 1, by go_num, ⟨by rw [HS.out]; exact HR2.out⟩, ⟨by have := HI.out; omega⟩, HB2⟩
          · have q1 : decide ((i : Int) < (l0.length : Int)) = false := decide_eq_false (by omega)
            have e : i = l0.length := by have := HI.out; omega
            subst e
            rw [List.take_length] at HR1
            go_wp2
            go_ret
            exact ⟨_, rfl, HR1.out, HB.out⟩
  · rw [if_neg hb] at h; cases h
end Go.Proofs.Ythgpmneplpdeiaa.Hand
end
