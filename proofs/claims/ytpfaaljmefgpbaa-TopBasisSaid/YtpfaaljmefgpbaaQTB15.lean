/- QTB, part 15: HSame HConcatR PlLeft. -/
import Derived.Test.YtpfaaljmefgpbaaQTB7
import Derived.Test.YtpfaaljmefgpbaaQTB12
import Derived.Test.YtpfaaljmefgpbaaQTB13
import Derived.Test.YtpfaaljmefgpbaaQTB14

section
set_option linter.unusedVariables false
set_option linter.unusedSimpArgs false
namespace Go.Proofs.Ytpfaaljmefgpbaa.Hand
open Go.RowKit Go.Proofs.YtpfaaljmefgpbaaW.PrintWords Go.Proofs.YtpfaaljmefgpbaaW.PrintLast Go.Proofs.YtpfaaljmefgpbaaW.PrintMore
theorem strOf_inj : ∀ {a b : List Int}, areB a → areB b → (strOfNums a).toList = (strOfNums b).toList → a = b := by
  intro a b ha hb h
  have h1 : (strOfNums a).data.toList = (strOfNums b).data.toList := by
    rw [ByteArray.toList_eq, ByteArray.toList_eq] at h
    exact h
  rw [strOfNums_data, strOfNums_data] at h1
  clear h
  induction a generalizing b with
  | nil => cases b with
    | nil => rfl
    | cons y b => cases h1
  | cons x a ih => cases b with
    | nil => cases h1
    | cons y b =>
      simp only [List.map_cons, List.cons.injEq] at h1
      have hx := ha x (List.mem_cons_self)
      have hy := hb y (List.mem_cons_self)
      have e : x = y := by
        have h2 := congrArg UInt8.toNat h1.1
        rw [UInt8.toNat_ofNat', UInt8.toNat_ofNat'] at h2
        have := hx.1; have := hx.2; have := hy.1; have := hy.2
        omega
      rw [e, ih (fun z hz => ha z (List.mem_cons_of_mem _ hz)) (fun z hz => hb z (List.mem_cons_of_mem _ hz)) h1.2]
theorem bytesEq_f {a b : List Int} (ha : areB a) (hb : areB b) : PK.bytes_Equal.f a b = some (decide (a = b)) := by
  unfold PK.bytes_Equal.f
  by_cases e : a = b
  · subst e; simp
  · congr 1
    rw [decide_eq_false e]
    exact beq_eq_false_iff_ne.2 (fun h => e (strOf_inj ha hb h))
def matrix_Same.f (l0 l1 : List (List Int)) : Option Bool := if l0.length < 1000000000 ∧ (∀ x ∈ l0, areB x) ∧ (∀ x ∈ l1, areB x) then some (decide (l0 = l1)) else none
set_option maxHeartbeats 4000000 in
set_option maxRecDepth 100000 in
theorem equalFunc_calls (A0 : Option Addr) (c0 : Nat) (l0 : List (List Int)) (A1 : Option Addr) (c1 : Nat) (l1 : List (List Int)) (w : World) (hr0 : Kd.C (Kd.slice 5 (Kd.int .u8)) w A0 l0.length l0) (hr1 : Kd.C (Kd.slice 5 (Kd.int .u8)) w A1 l1.length l1)
    (hl : l0.length < 1000000000) (h0 : ∀ x ∈ l0, areB x) (h1 : ∀ x ∈ l1, areB x) :
    Calls Try.prog 39 #[.slice A0 l0.length c0, .slice A1 l1.length c1, .func (.func 40) #[] #[]] w fun e w' => e = .returned (.bool (decide (l0 = l1))) ∧ Drawn0 w w' := by
  have HR0 := Aside0.mk hr0
  have HR1 := Aside0.mk hr1
  have HB0 := Aside0.mk h0
  have HB1 := Aside0.mk h1
  have HL := Aside0.mk hl
  clear hr0 hr1 h0 h1 hl
  by_cases hn : l0.length = l1.length
  · have q0 : ((l0.length : Int) != (l1.length : Int)) = false := by simp [hn]
    have Hn := Aside0.mk hn
    clear hn
    go_enter Try.func39, Try.ntmps39
    go_wp2
    go_loopg [17] l0.length (fun kq v17 w' => ∃ i : Nat, v17 = .int .i64 (i : Int) ∧ Aside0 (kq + i = l0.length) ∧ Aside0 (∀ j, j < i → l0[j]? = l1[j]?) ∧ Aside0 (Drawn0 w w'))
    case atStart => exact ⟨0, rfl, ⟨by omega⟩, ⟨fun j hj => absurd hj (by omega)⟩, ⟨Drawn0.refl _⟩⟩
    case round =>
      obtain ⟨i, rfl, HI, HE, HD⟩ := hrel
      by_cases hi : i < l0.length
      · have hi' : i < l1.length := by have := Hn.out; omega
        have q1 : decide ((i : Int) < (l0.length : Int)) = true := decide_eq_true (by omega)
        have p0 : (0 : Int) ≤ (i : Int) := by omega
        have p1 : (i : Int) < (l0.length : Int) := by omega
        have p2 : (i : Int) < (l1.length : Int) := by omega
        obtain ⟨ad, Ai, ci, e1, hx1, hl1, hi1⟩ := at_R HR0.out (i : Int) p0 p1
        cases e1
        obtain ⟨bd, Bi, di, e2, hx2, hl2, hi2⟩ := at_R HR1.out (i : Int) p0 p2
        cases e2
        have er : rdR l0 (i : Int) = l0[i] := by unfold rdR; rw [Int.toNat_natCast, List.getD_eq_getElem?_getD, List.getElem?_eq_getElem hi, Option.getD_some]
        have er' : rdR l1 (i : Int) = l1[i] := by unfold rdR; rw [Int.toNat_natCast, List.getD_eq_getElem?_getD, List.getElem?_eq_getElem hi', Option.getD_some]
        rw [er] at hx1 hl1 hi1
        rw [er'] at hx2 hl2 hi2
        rw [Int.toNat_natCast] at hx1 hx2
        replace hx1 := (HD.out.below.cell (World.block_lt_of_cell? _ _ hx1)).trans hx1
        replace hx2 := (HD.out.below.cell (World.block_lt_of_cell? _ _ hx2)).trans hx2
        have HF := Aside0.mk (PK.bytes_Equal.calls Ai ci l0[i] Bi di l1[i] _ wr (Kd.C_below hi1 HD.out.below) hl1 (Kd.C_below hi2 HD.out.below) hl2 (bytesEq_f (HB0.out _ (List.getElem_mem hi)) (HB1.out _ (List.getElem_mem hi'))))
        have G0 := Aside0.mk (List.getElem?_eq_getElem hi)
        have G1 := Aside0.mk (List.getElem?_eq_getElem hi')
        have hi9 : (i : Int) ≤ 1000000000 := by have := HL.out; omega
        have hi8 := p0
        have q4 := eq_true p0
        have q5 := eq_true p1
        have q6 := eq_true hi
        have q7 := eq_true p2
        have q8 := eq_true hi'
        have Hi := Aside0.mk hi
        generalize l0[i] = x at *
        generalize l1[i] = y at *
        clear p0 p1 p2 hi hi' er er' hi1 hl1 hi2 hl2
        by_cases e : x = y
        · rw [decide_eq_true e] at HF
          have E := Aside0.mk e
          clear e
          cases gk with
          | zero => exact absurd HI.out (by have := Hi.out; omega)
          | succ k1 =>
            go_wp2_with (go_at_call 40; refine HF.out.mono ?_; rintro e w2 ⟨rfl, hd⟩; have HD2 := Aside0.mk hd; clear hd)
            go_roundg k1
            case measure => omega
            case rel => exact ⟨i + 1, by go_num, ⟨by have := HI.out; omega⟩, ⟨fun j hj => by
              by_cases e : j = i
              · rw [e, G0.out, G1.out, E.out]
              · exact HE.out j (by omega)⟩, ⟨by obtain ⟨⟨n, h⟩⟩ := HD2.out; rw [h]; exact HD.out.step n⟩⟩
        · rw [decide_eq_false e] at HF
          have E := Aside0.mk e
          clear e
          go_wp2_with (go_at_call 40; refine HF.out.mono ?_; rintro e w2 ⟨rfl, hd⟩; have HD2 := Aside0.mk hd; clear hd)
          go_ret
          have hne : l0 ≠ l1 := fun h => E.out (by have := G0.out; rw [h, G1.out] at this; injection this with this; exact this.symm)
          exact ⟨by rw [decide_eq_false hne]; rfl, by obtain ⟨⟨n, h⟩⟩ := HD2.out; rw [h]; exact HD.out.step n⟩
      · have q1 : decide ((i : Int) < (l0.length : Int)) = false := decide_eq_false (by omega)
        have e : i = l0.length := by have := HI.out; omega
        subst e
        go_wp2
        go_ret
        have hee : l0 = l1 := List.ext_getElem? fun j => by
          by_cases h : j < l0.length
          · exact HE.out j h
          · rw [List.getElem?_eq_none (by omega), List.getElem?_eq_none (by have := Hn.out; omega)]
        exact ⟨by rw [decide_eq_true hee]; rfl, HD.out⟩
  · have q0 : ((l0.length : Int) != (l1.length : Int)) = true := by simp; omega
    have hne : decide (l0 = l1) = false := decide_eq_false (fun e => hn (by rw [e]))
    rw [hne]
    clear hn hne
    go_enter Try.func39, Try.ntmps39
    go_wp2
    go_ret
    exact ⟨rfl, Drawn0.refl _⟩
set_option maxHeartbeats 1000000 in
set_option maxRecDepth 100000 in
theorem matrix_Same.calls (A0 : Option Addr) (c0 : Nat) (l0 : List (List Int)) (A1 : Option Addr) (c1 : Nat) (l1 : List (List Int)) (r : Bool) (w : World) (hr0 : Kd.C (Kd.slice 5 (Kd.int .u8)) w A0 l0.length l0) (hc0 : l0.length ≤ c0) (hr1 : Kd.C (Kd.slice 5 (Kd.int .u8)) w A1 l1.length l1) (hc1 : l1.length ≤ c1) (h : matrix_Same.f l0 l1 = some r) :
    Calls Try.prog 18 #[.slice A0 l0.length c0, .slice A1 l1.length c1] w fun e w' => e = .returned (.bool r) ∧ Drawn0 w w' := by
  unfold matrix_Same.f at h
  by_cases hb : l0.length < 1000000000 ∧ (∀ x ∈ l0, areB x) ∧ (∀ x ∈ l1, areB x)
  · rw [if_pos hb] at h
    obtain rfl := Option.some.inj h
    have HE := Aside0.mk (equalFunc_calls A0 c0 l0 A1 c1 l1 w hr0 hr1 hb.1 hb.2.1 hb.2.2)
    clear h hr0 hr1 hb
    generalize decide (l0 = l1) = b at *
    go_enter Try.func18, Try.ntmps18
    go_wp2_with (go_at_call 39; refine HE.out.mono ?_; rintro e w2 ⟨rfl, hd⟩)
    go_ret
    exact ⟨rfl, hd⟩
  · rw [if_neg hb] at h; cases h
end Go.Proofs.Ytpfaaljmefgpbaa.Hand
end

section
set_option linter.unusedVariables false
set_option linter.unusedSimpArgs false
namespace Go.Proofs.Ytpfaaljmefgpbaa.Hand
open Go.RowKit Go.Proofs.YtpfaaljmefgpbaaW.PrintWords Go.Proofs.YtpfaaljmefgpbaaW.PrintLast Go.Proofs.YtpfaaljmefgpbaaW.PrintMore
theorem zero_row (w : World) : Kd.FK rowK w (fun _ => False) [] (Value.slice none 0 0).cells.toList := by
  have := Kd.FK_slice_mk (W := w) (e := 5) (d := Kd.int .u8) (ok := fun _ => False) (A := none) (c := 0) (l := ([] : List Int)) (Nat.le_refl 0) (Kd.F_nil _ _ _)
  simpa [Value.cells] using this
set_option maxHeartbeats 2000000 in
set_option maxRecDepth 100000 in
theorem growR_calls (n : Nat) (w : World) (hn : n < 1000000000) :
    Calls Try.prog 57 #[.slice none 0 0, .int .i64 (n : Int)] w fun e w' => ∃ v : Value, e = .returned v ∧ Kd.N rowK 22 w' w.heap.size (fun _ => True) v [] ∧ Below w.heap.size w w' := by
  obtain ⟨info, hinfo, -⟩ := Option.map_eq_some_iff.1 infoRows
  have hc1 := cut_to (P := Try.prog) 24 22 .i64 Try.underlying24 hinfo none 0 0 0 (by omega) (by omega) (Nat.zero_le _)
  have q1 : ((n : Int) < 0) = False := eq_false (by omega)
  have q2 : decide ((n : Int) < 0) = false := decide_eq_false (by omega)
  by_cases h0 : n = 0
  · subst h0
    go_enter Try.func57, Try.ntmps57
    go_wp2
    go_ret
    exact ⟨_, rfl, Kd.N_nil _ _ _ _ _, Below.refl _ _⟩
  · have q3 : decide ((n : Int) > 0) = true := decide_eq_true (by omega)
    have q4 : wrap64 ((n : Int)) = (n : Int) := by unfold wrap64; omega
    have q5 : (0 < n) = True := eq_true (by omega)
    have q6 : decide (0 < n) = true := decide_eq_true (by omega)
    have Hn := Aside0.mk hn
    have HC := Aside0.mk (fun (A : Option Addr) (c : Nat) (h : n ≤ c) => cut_to (P := Try.prog) 24 22 .i64 Try.underlying24 hinfo A n c 0 (by omega) (by omega) h)
    clear hn
    go_enter Try.func57, Try.ntmps57
    go_wp2_with (first
      | ((with_reducible refine gate_builtin (b := .append) (xs := #[.tmp 20, .tmp 21]) rfl ?_); at_builtin; refine Kd.N_append_zeros rowK (w0 := w) w.heap.size rfl (.tmp 20) (.tmp 21) 24 3 22 (.slice none 0 0) 24 rfl Try.underlying24 Try.underlying3 infoRows rfl (show 0 < 1 by decide) (by decide) (.slice none 0 0) [] [] (n : Int) (fun _ => True) rfl (congrArg (Value.int IntKind.i64) q4) (zero_row _) (fun _ _ => trivial) (Kd.N_nil _ _ _ _ _) (by omega) (Below.refl _ _) (Nat.le_refl _) (by have := Hn.out; rw [List.length_nil, Int.toNat_natCast]; omega) ?_; intro v1 w1 hR hb _ _; rw [List.nil_append] at hR; obtain ⟨A, c, rfl, hlc, _⟩ := Kd.N_reads hR; rw [List.length_replicate, Int.toNat_natCast] at hR hlc; have HR := Aside0.mk hR; have HB := Aside0.mk hb; have hcut := HC.out A c hlc; clear hR hb))
    go_ret
    refine ⟨_, rfl, ?_, HB.out⟩
    have := Kd.N_take (m := 0) HR.out (Nat.zero_le _)
    rwa [List.take_zero] at this
theorem flatR_succ (l : List (List (List Int))) (i : Nat) (h : i < l.length) : (l.take (i + 1)).flatten = (l.take i).flatten ++ l[i] := by
  rw [List.take_add_one, List.getElem?_eq_getElem h, Option.toList_some, List.flatten_append]; simp only [List.flatten_cons, List.flatten_nil, List.append_nil]
theorem flatR_le (l : List (List (List Int))) (i : Nat) : (l.take i).flatten.length ≤ l.flatten.length := by
  conv => rhs; rw [← List.take_append_drop i l, List.flatten_append]
  rw [List.length_append]; omega
abbrev rowsK : Kd (List (List Int)) := Kd.slice 22 rowK
theorem at_RR {w : World} {A : Option Addr} {n : Nat} {xs : List (List (List Int))} (h : Kd.C rowsK w A n xs) (i : Nat) (hi : i < n) (hx : i < xs.length) : ∃ ad A0 c0, A = some ad ∧ w.cell? (ad.add i) = some (.slice A0 xs[i].length c0) ∧ xs[i].length ≤ c0 ∧ rowK.C w A0 xs[i].length xs[i] := by
  obtain ⟨ad, c, e, _, hK, hc0⟩ := Kd.C_get h ([] : List (List Int)) (i : Int) (by omega) (by omega)
  have hc : ∀ j u, c[j]? = some u → w.cell? (ad.add (i * 1 + j)) = some u := by rw [Int.toNat_natCast] at hc0; exact hc0
  rw [Int.toNat_natCast, List.getD_eq_getElem?_getD, List.getElem?_eq_getElem hx, Option.getD_some] at hK
  obtain ⟨A0, c0, rfl, l0, g0⟩ := hK
  exact ⟨ad, A0, c0, e, by have hq := hc 0 _ rfl; rwa [Nat.mul_one, Nat.add_zero] at hq, l0, g0⟩
def slices_ConcatR.f (l0 : List (List (List Int))) : Option (List (List Int)) := if l0.length < 1000000000 ∧ l0.flatten.length < 1000000000 then some l0.flatten else none
set_option maxHeartbeats 4000000 in
set_option maxRecDepth 100000 in
theorem slices_ConcatR.calls (A0 : Option Addr) (c0 : Nat) (l0 : List (List (List Int))) (r : List (List Int)) (w : World) (hr0 : Kd.C rowsK w A0 l0.length l0) (hc0 : l0.length ≤ c0) (h : slices_ConcatR.f l0 = some r) :
    Calls Try.prog 41 #[.slice A0 l0.length c0] w fun e w' => ∃ v : Value, e = .returned v ∧ Kd.N rowK 22 w' w.heap.size (fun _ => True) v r ∧ Below w.heap.size w w' := by
  unfold slices_ConcatR.f at h
  by_cases hb : l0.length < 1000000000 ∧ l0.flatten.length < 1000000000
  · rw [if_pos hb] at h
    obtain rfl := Option.some.inj h
    clear h
    have HR := Aside0.mk hr0
    have HC := Aside0.mk hc0
    have HL := Aside0.mk hb
    clear hr0 hc0 hb
    go_enter Try.func41, Try.ntmps41
    go_wp2
    go_loopg [11, 3] l0.length (fun kq v11 v3 w' => ∃ i : Nat, v11 = .int .i64 (i : Int) ∧ v3 = .int .i64 ((l0.take i).flatten.length : Int) ∧ Aside0 (kq + i = l0.length) ∧ w = w')
    case atStart => exact ⟨0, rfl, rfl, ⟨by omega⟩, rfl⟩
    case round =>
      obtain ⟨i, rfl, rfl, HI, rfl⟩ := hrel
      by_cases hi : i < l0.length
      · have q1 : decide ((i : Int) < (l0.length : Int)) = true := decide_eq_true (by omega)
        have p0 : (0 : Int) ≤ (i : Int) := by omega
        have p1 : (i : Int) < (l0.length : Int) := by omega
        obtain ⟨ad, Ai, ci, e1, hx1, hl1, hi1⟩ := at_RR HR.out i hi hi
        cases e1
        have hs := flatR_succ l0 i hi
        have hle := flatR_le l0 (i + 1)
        rw [hs, List.length_append] at hle
        have hL := HL.out
        have HS := Aside0.mk hs
        have q2 : wrap64 (((l0.take i).flatten.length : Int) + (l0[i].length : Int)) = (((l0.take i).flatten.length + l0[i].length : Nat) : Int) := by unfold wrap64; omega
        have q3 : decide ((((l0.take i).flatten.length + l0[i].length : Nat) : Int) < 0) = false := decide_eq_false (by omega)
        have hi9 : (i : Int) ≤ 1000000000 := by have := HL.out.1; omega
        have hi8 := p0
        have q4 := eq_true p0
        have q5 := eq_true p1
        have q6 := eq_true hi
        have Hi := Aside0.mk hi
        generalize l0[i] = x at *
        clear hs hle hL p0 p1 hi hi1 hl1
        cases gk with
        | zero => exact absurd HI.out (by have := Hi.out; omega)
        | succ k1 =>
          generalize hfl : (l0.take i).flatten.length = F at *
          generalize hll : x.length = lI at *
          go_wp2
          go_roundg k1
          case measure => omega
          case rel => exact ⟨i + 1, by go_num, by rw [HS.out, List.length_append, hfl, hll]; exact congrArg (Value.int IntKind.i64) q2, ⟨by have := HI.out; omega⟩, rfl⟩
      · have q1 : decide ((i : Int) < (l0.length : Int)) = false := decide_eq_false (by omega)
        have e : i = l0.length := by have := HI.out; omega
        subst e
        rw [List.take_length]
        clear hi
        obtain ⟨F, hF⟩ : ∃ F, F = l0.flatten.length := ⟨_, rfl⟩
        rw [← hF]
        have HG := Aside0.mk (fun W => growR_calls F W (by rw [hF]; exact HL.out.2))
        clear hF
        go_wp2_with (go_at_call 57; refine (HG.out _).mono ?_; rintro e w1 ⟨v, rfl, hR, hb⟩; have HR1 := Aside0.mk hR; have HB := Aside0.mk hb; clear hR hb)
        go_loopg [27, 6] l0.length (fun kq v27 v6 w' => ∃ i : Nat, v27 = .int .i64 (i : Int) ∧ Aside0 (Kd.N rowK 22 w' w.heap.size (fun _ => True) v6 (l0.take i).flatten) ∧ Aside0 (kq + i = l0.length) ∧ Aside0 (Below w.heap.size w w'))
        case atStart => exact ⟨0, rfl, ⟨show Kd.N _ _ _ _ _ _ [] from HR1.out⟩, ⟨by omega⟩, HB⟩
        case round =>
          clear HR1 HB
          obtain ⟨i, rfl, HR1, HI, HB⟩ := hrel
          by_cases hi : i < l0.length
          · have q1 : decide ((i : Int) < (l0.length : Int)) = true := decide_eq_true (by omega)
            have p0 : (0 : Int) ≤ (i : Int) := by omega
            have p1 : (i : Int) < (l0.length : Int) := by omega
            obtain ⟨ad, Ai, ci, e1, hx1, hl1, hi1⟩ := at_RR HR.out i hi hi
            cases e1
            replace hx1 := (HB.out.cell (World.block_lt_of_cell? _ _ hx1)).trans hx1
            have HRi := Aside0.mk (Kd.F_step (Kd.C_F (Kd.heap_slice _ (Kd.heap_int _)) hi1) (fun k hk _ => HB.out.block k hk))
            have HS := Aside0.mk (flatR_succ l0 i hi)
            have HLE := Aside0.mk (flatR_le l0 (i + 1))
            have hi9 : (i : Int) ≤ 1000000000 := by have := HL.out.1; omega
            have hi8 := p0
            have q4 := eq_true p0
            have q5 := eq_true p1
            have q6 := eq_true hi
            have Hi := Aside0.mk hi
            generalize l0[i] = x at *
            clear p0 p1 hi hi1 hl1
            cases gk with
            | zero => exact absurd HI.out (by have := Hi.out; omega)
            | succ k1 =>
              go_wp2_with (first
                | ((with_reducible refine gate_builtin (b := .append) (xs := #[.tmp 31, .tmp 32]) rfl ?_); at_builtin; refine Kd.N_append_rows rowK (w0 := w) w.heap.size rfl (.tmp 31) (.tmp 32) 24 22 (.slice none 0 0) 24 rfl Try.underlying24 infoRows rfl (show 0 < 1 by decide) (by omega) _ (l0.take i).flatten x _ _ _ (fun _ => True) (fun k_ => k_ < w.heap.size) rfl rfl HR1.out HRi.out (fun j_ hj_ => ⟨trivial, fun e_ => absurd (Kd.N_base HR1.out j_ e_.symm) (Nat.not_le.2 hj_)⟩) (fun _ _ => trivial) HB.out HB.out.size (by have h1 := HLE.out; have h2 := HL.out.2; have h3 := HS.out; rw [h3, List.length_append] at h1; omega) ?_; intro v2 w2 hR2 hb2 _ _; have HR2 := Aside0.mk hR2; have HB2 := Aside0.mk hb2; clear hR2 hb2))
              go_roundg k1
              case measure => omega
              case rel => exact ⟨i + 1, by go_num, ⟨by rw [HS.out]; exact HR2.out⟩, ⟨by have := HI.out; omega⟩, HB2⟩
          · have q1 : decide ((i : Int) < (l0.length : Int)) = false := decide_eq_false (by omega)
            have e : i = l0.length := by have := HI.out; omega
            subst e
            rw [List.take_length] at HR1
            go_wp2
            go_ret
            exact ⟨_, rfl, HR1.out, HB.out⟩
  · rw [if_neg hb] at h; cases h
def span_beside.f (l0 : List (List (List Int))) : Option (List (List Int) × Int) := (slices_ConcatR.f l0).bind matrix_Reduce.f
set_option maxHeartbeats 2000000 in
set_option maxRecDepth 100000 in
theorem span_beside.calls (A0 : Option Addr) (c0 : Nat) (l0 : List (List (List Int))) (r1 : List (List Int)) (r2 : Int) (w : World) (hr0 : Kd.C rowsK w A0 l0.length l0) (hc0 : l0.length ≤ c0) (h : span_beside.f l0 = some (r1, r2)) :
    Calls Try.prog 19 #[.slice A0 l0.length c0] w fun e w' => ∃ v0_ : Value, e = .returned (.tuple #[v0_, .int .i64 r2]) ∧ Kd.S rowK 22 w' w.heap.size (fun _ => True) v0_ r1 ∧ Below w.heap.size w w' := by
  unfold span_beside.f at h
  obtain ⟨m, h1, h2⟩ := Option.bind_eq_some_iff.1 h
  have HR := Aside0.mk hr0
  have HC := Aside0.mk hc0
  have H1 := Aside0.mk h1
  have H2 := Aside0.mk h2
  clear hr0 hc0 h1 h2 h
  go_enter Try.func19, Try.ntmps19
  go_wp2_with (first
    | (go_at_call 41; with_reducible refine (slices_ConcatR.calls A0 c0 l0 m _ HR.out HC.out H1.out).mono ?_; rintro e w1 ⟨v, rfl, hN, hb⟩; obtain ⟨A1, c1, rfl⟩ := Kd.N_slice hN; have HM := Aside0.mk (Kd.N_reads' hN).2.2; have CM := Aside0.mk (Kd.N_reads' hN).2.1; have HB := Aside0.mk hb; clear hN hb)
    | (go_at_call 10; with_reducible refine (matrix_Reduce.calls A1 c1 m r1 r2 _ HM.out CM.out H2.out).mono ?_; rintro e w2 ⟨v, rfl, hS, hb⟩; have HS := Aside0.mk (Kd.S_lower hS HB.out.size); replace HB := Aside0.mk (HB.out.trans (hb.mono HB.out.size)); clear hS hb))
  go_ret2
  exact ⟨_, rfl, HS.out, HB.out⟩
end Go.Proofs.Ytpfaaljmefgpbaa.Hand
end

section
namespace Go.Proofs.Ytpfaaljmefgpbaa.Plain
open Go.Proofs.Ytpfaaljmefgpbaa.Hand Go.Proofs.Ytpfaaljmefgpbaa.GF Go.Proofs.Ytpfaaljmefgpbaa.LA Go.RowKit Go.Proofs.YtpfaaljmefgpbaaW.PrintWords Go.Proofs.YtpfaaljmefgpbaaW.PrintLast
def vecs (L : List (List Int)) : List V := L.map vec
theorem vecs_length (L : List (List Int)) : (vecs L).length = L.length := by simp [vecs]
theorem vec_nil : vec [] = vz := funext fun _ => rfl
theorem vecs_row (L : List (List Int)) (i : Nat) : row (vecs L) i = vec (L.getD i []) := by
  unfold row vecs
  rw [List.getD_eq_getElem?_getD, List.getElem?_map, List.getD_eq_getElem?_getD]
  cases L[i]? with
  | none => exact vec_nil.symm
  | some x => rfl
theorem vecs_supp {n : Nat} {L : List (List Int)} (h : Fits n L) : AllSupp n (vecs L) := fun v hv => by
  obtain ⟨r, hr, rfl⟩ := List.mem_map.1 hv
  have := vec_supp r
  rw [(h r hr).1] at this
  exact this
theorem vecs_take (L : List (List Int)) (d : Nat) : vecs (L.take d) = (vecs L).take d := by simp [vecs, List.map_take]
theorem vecs_inj {n : Nat} : ∀ {A B : List (List Int)}, Fits n A → Fits n B → vecs A = vecs B → A = B
  | [], [], _, _, _ => rfl
  | [], b :: B, _, _, h => by simp [vecs] at h
  | a :: A, [], _, _, h => by simp [vecs] at h
  | a :: A, b :: B, hA, hB, h => by
    simp only [vecs, List.map_cons, List.cons.injEq] at h
    have h1 := hA a (List.mem_cons_self)
    have h2 := hB b (List.mem_cons_self)
    rw [vec_ext (h1.1.trans h2.1.symm) h1.2 h2.2 (fun j _ => by rw [h.1]), vecs_inj (fun r hr => hA r (List.mem_cons_of_mem _ hr)) (fun r hr => hB r (List.mem_cons_of_mem _ hr)) h.2]
theorem toG_gi (x : Int) : toG (gi x) = inv (toG x) := toG_ofG _
theorem getD_set (M : List (List Int)) (i j : Nat) (x : List Int) (hi : i < M.length) : (M.set i x).getD j [] = if j = i then x else M.getD j [] := by
  rw [List.getD_eq_getElem?_getD, List.getD_eq_getElem?_getD]
  by_cases e : j = i
  · subst e; rw [if_pos rfl, List.getElem?_set_self hi]; rfl
  · rw [if_neg e, List.getElem?_set_ne (fun q => e q.symm)]
theorem pivoted_getD (M : List (List Int)) (d i k j : Nat) (hd : d < M.length) (hi : i < M.length) : (pivoted M d i k).getD j [] = if j = d then (M.getD i []).map (fun x => gm x (gi ((M.getD i []).getD k 0))) else if j = i then M.getD d [] else M.getD j [] := by
  unfold pivoted
  rw [getD_set _ _ _ _ (by rw [List.length_set]; exact hd)]
  by_cases e : j = d
  · rw [if_pos e, if_pos e]
  · rw [if_neg e, if_neg e, getD_set _ _ _ _ hi]
theorem step_vec {n : Nat} {M : List (List Int)} (hM : Fits n M) {d i : Nat} (hd : d < M.length) (hi : i < M.length) (k : Nat) : vecs (stepI M d i k) = LA.step (vecs M) d i k := by
  have hP := pivoted_fits hM hd hi k
  have hlen : (vecs (stepI M d i k)).length = (LA.step (vecs M) d i k).length := by rw [vecs_length, stepI_length, step_length, vecs_length]
  refine ext_rows hlen fun j hj => ?_
  rw [vecs_length, stepI_length] at hj
  have hPl := pivoted_length M d i k
  have hdP : vec ((pivoted M d i k).getD d []) = pivot (vecs M) i k := by
    rw [pivoted_getD M d i k d hd hi, if_pos rfl, vec_scale, toG_gi]
    unfold pivot
    rw [vecs_row]
    rfl
  have hjP : j ≠ d → vec ((pivoted M d i k).getD j []) = swapped (vecs M) d i j := fun e => by
    rw [pivoted_getD M d i k j hd hi, if_neg e]
    unfold swapped
    by_cases e2 : j = i
    · rw [if_pos e2, if_pos e2, vecs_row]
    · rw [if_neg e2, if_neg e2, vecs_row]
  rw [step_row (by rw [vecs_length]; exact hj), vecs_row]
  have e0 : (stepI M d i k).getD j [] = if j < M.length ∧ j ≠ d then addS ((pivoted M d i k).getD j []) ((pivoted M d i k).getD d []) (((pivoted M d i k).getD j []).getD k 0) else (pivoted M d i k).getD j [] := by
    unfold stepI clr
    rw [List.getD_eq_getElem?_getD, List.getElem?_map, hPl, List.getElem?_range hj]
    rfl
  rw [e0]
  by_cases e : j = d
  · rw [if_neg (by omega), if_pos e, e, hdP]
  · rw [if_pos ⟨hj, e⟩, if_neg e]
    unfold addS
    rw [vec_addScaled (by rw [(getD_fits hP (by rw [hPl]; exact hj)).1, (getD_fits hP (by rw [hPl]; exact hd)).1]), hdP, hjP e]
    have : toG (((pivoted M d i k).getD j []).getD k 0) = vec ((pivoted M d i k).getD j []) k := rfl
    rw [this, hjP e]
theorem redTo_inv {n : Nat} {L : List (List Int)} (hL : Fits n L) (k : Nat) : ∃ p, LA.Inv (vecs (redTo L k).1) (redTo L k).2 k p ∧ SpEq (vecs L) (vecs (redTo L k).1) := by
  induction k with
  | zero => exact ⟨[], .start _, .refl _⟩
  | succ k ih =>
    obtain ⟨p, h1, h2⟩ := ih
    have hF := redTo_fits hL k
    show ∃ p, LA.Inv (vecs (colStep (redTo L k) k).1) (colStep (redTo L k) k).2 (k + 1) p ∧ SpEq (vecs L) (vecs (colStep (redTo L k) k).1)
    generalize redTo L k = S at *
    unfold colStep
    cases e : pick S.1 S.2 k with
    | none =>
      refine ⟨p, h1.pass fun i hi1 hi2 => ?_, h2⟩
      rw [vecs_length] at hi2
      unfold pick at e
      rw [List.find?_eq_none] at e
      have := e i (List.mem_range.2 hi2)
      rw [vecs_row]
      have h0 : (S.1.getD i []).getD k 0 = 0 := by
        rcases Decidable.em ((S.1.getD i []).getD k 0 = 0) with q | q
        · exact q
        · exact absurd (by simp only [Bool.and_eq_true, decide_eq_true_eq, bne_iff_ne, ne_eq]; exact ⟨hi1, q⟩) this
      show toG ((S.1.getD i []).getD k 0) = _
      rw [h0]; rfl
    | some i =>
      obtain ⟨hi1, hi2, hi3⟩ := pick_some e
      have hne : row (vecs S.1) i k ≠ 0#8 := by
        rw [vecs_row]
        intro h0
        have hB := (getD_fits hF.1 hi2).2
        have hb : isB ((S.1.getD i []).getD k 0) := by
          rw [List.getD_eq_getElem?_getD]
          cases q : (S.1.getD i [])[k]? with
          | none => exact ⟨by decide, by decide⟩
          | some x => exact hB x (List.mem_of_getElem? q)
        exact hi3 (byte_eq hb ⟨by decide, by decide⟩ h0)
      dsimp only
      rw [step_vec hF.1 (by omega) hi2 k]
      exact ⟨p ++ [k], h1.step hi1 (by rw [vecs_length]; exact hi2) hne, h2.trans (step_span (by rw [vecs_length]; omega) (by rw [vecs_length]; exact hi2) hne)⟩
def redRows (L : List (List Int)) (n : Nat) : List (List Int) := (redTo L n).1.take (redTo L n).2
theorem redRows_spec {n : Nat} {L : List (List Int)} (hL : Fits n L) : ∃ p, Red (vecs (redRows L n)) p ∧ SpEq (vecs L) (vecs (redRows L n)) ∧ Fits n (redRows L n) ∧ (redRows L n).length ≤ L.length := by
  obtain ⟨p, h1, h2⟩ := redTo_inv hL n
  have hF := redTo_fits hL n
  refine ⟨p, ?_, ?_, fun r hr => hF.1 r (List.mem_of_mem_take hr), ?_⟩
  · unfold redRows; rw [vecs_take]; exact h1.red
  · unfold redRows; rw [vecs_take]; exact h2.trans (h1.span (vecs_supp hF.1))
  · unfold redRows; rw [List.length_take, hF.2]; omega
theorem redRows_rank {n : Nat} {L : List (List Int)} (hL : Fits n L) : (redRows L n).length = rk n (vecs L) := by
  obtain ⟨p, h1, h2, _, _⟩ := redRows_spec hL
  rw [rk_eq (vecs_supp hL) h1 h2, vecs_length]
theorem any_len {n : Nat} {L : List (List Int)} (hL : Fits n L) : (L.any fun x => (x.length : Int) != ((rdR L 0).length : Int)) = false := by
  refine List.any_eq_false.2 fun x hx => ?_
  have h0 : (rdR L 0).length = n := by
    have hp : 0 < L.length := List.length_pos_of_mem hx
    exact (getD_fits hL hp).1
  rw [h0, (hL x hx).1]; simp
theorem width {n : Nat} {L : List (List Int)} (hL : Fits n L) (hp : 0 < L.length) : (rdR L 0).length = n := (getD_fits hL hp).1
theorem redTo_nil (k : Nat) : redTo [] k = ([], 0) := by
  induction k with
  | zero => rfl
  | succ k ih => show colStep (redTo [] k) k = _; rw [ih]; rfl
theorem reduce_f {n : Nat} {L : List (List Int)} (hL : Fits n L) (hl : L.length < 1000000000) (hn : n < 140737488355328) : matrix_Reduce.f L = some (redRows L n, 0) := by
  unfold matrix_Reduce.f
  rw [if_pos hl, if_neg (by rw [any_len hL]; decide)]
  by_cases hp : 0 < L.length
  · rw [width hL hp, if_pos ⟨hn, fun x hx => (hL x hx).2⟩]; rfl
  · have e := List.length_eq_zero_iff.1 (show L.length = 0 by omega)
    subst e
    unfold redRows
    rw [redTo_nil, redTo_nil, if_pos ⟨by decide, fun x hx => by cases hx⟩]
theorem same_f {n m : Nat} {A B : List (List Int)} (hA : Fits n A) (hB : Fits m B) (hl : A.length < 1000000000) : matrix_Same.f A B = some (decide (A = B)) := by
  unfold matrix_Same.f
  rw [if_pos ⟨hl, fun x hx => (hA x hx).2, fun x hx => (hB x hx).2⟩]
end Go.Proofs.Ytpfaaljmefgpbaa.Plain
namespace Go.Proofs.Ytpfaaljmefgpbaa.Plain
open Go.Proofs.Ytpfaaljmefgpbaa.Hand Go.Proofs.Ytpfaaljmefgpbaa.GF Go.Proofs.Ytpfaaljmefgpbaa.LA Go.RowKit Go.Proofs.YtpfaaljmefgpbaaW.PrintWords Go.Proofs.YtpfaaljmefgpbaaW.PrintLast
theorem rd_B {b : List Int} (hb : areB b) (i : Int) : isB (rd b i) := by
  unfold rd
  rw [List.getD_eq_getElem?_getD]
  cases h : b[i.toNat]? with
  | none => exact ⟨by decide, by decide⟩
  | some x => exact hb x (List.mem_of_getElem? h)
theorem getElem_getD (l : List Int) (j : Nat) (q : j < l.length) : l[j] = l.getD j 0 := by rw [List.getD_eq_getElem?_getD, List.getElem?_eq_getElem q]; rfl
theorem getD_B {n : Nat} {R : List (List Int)} (hR : Fits n R) (k x : Nat) : isB ((R.getD k []).getD x 0) := by
  by_cases h : k < R.length
  · have := rd_B (getD_fits hR h).2 (x : Int)
    unfold rd at this
    rwa [Int.toNat_natCast] at this
  · rw [show R.getD k [] = [] from by rw [List.getD_eq_getElem?_getD, List.getElem?_eq_none (by omega)]; rfl]
    exact (show isB 0 from ⟨by decide, by decide⟩)
theorem red_lead {n : Nat} {R : List (List Int)} {p : List Nat} (hR : Fits n R) (h : Red (vecs R) p) {i : Nat} (hi : i < R.length) :
    p.getD i 0 < n ∧ leadN (R.getD i []) = ((p.getD i 0 : Nat) : Int) ∧ ∀ k, k < R.length → (R.getD k []).getD (p.getD i 0) 0 = if k = i then 1 else 0 := by
  have hv : ∀ k, k < R.length → row (vecs R) k (p.getD i 0) = if k = i then 1#8 else 0#8 := fun k hk => h.one k i (by rw [vecs_length]; exact hk) (by rw [vecs_length]; exact hi)
  have hlt : p.getD i 0 < n := by
    refine Nat.lt_of_not_le fun hle => ?_
    have h1 := vecs_supp hR _ (row_mem (l := vecs R) (i := i) (by rw [vecs_length]; exact hi)) _ hle
    rw [hv i hi, if_pos rfl] at h1
    exact absurd h1 (by decide)
  have hval : ∀ k, k < R.length → (R.getD k []).getD (p.getD i 0) 0 = if k = i then 1 else 0 := fun k hk => by
    have h1 := hv k hk
    rw [vecs_row] at h1
    refine byte_eq (getD_B hR k _) (by split <;> exact ⟨by decide, by decide⟩) ?_
    show vec (R.getD k []) (p.getD i 0) = _
    rw [h1]
    by_cases e : k = i
    · rw [if_pos e, if_pos e]; rfl
    · rw [if_neg e, if_neg e]; rfl
  refine ⟨hlt, ?_, hval⟩
  have hRi := getD_fits hR hi
  have at_ : ∀ j (q : j < (R.getD i []).length), (R.getD i [])[j] = (R.getD i []).getD j 0 := fun j q => getElem_getD _ j q
  refine leadN_pos (by rw [hRi.1]; exact hlt) (by rw [at_, hval i hi, if_pos rfl]; decide) fun j hj => ?_
  rw [at_]
  refine byte_eq (getD_B hR i j) ⟨by decide, by decide⟩ ?_
  have h2 := h.low i (by rw [vecs_length]; exact hi) j hj
  rw [vecs_row] at h2
  exact h2
def leftL (R : List (List Int)) (l : List Int) : Nat → List Int
  | 0 => l
  | k + 1 => addS (leftL R l k) (R.getD k []) ((leftL R l k).getD (leadN (R.getD k [])).toNat 0)
theorem leftL_fits {n : Nat} {R : List (List Int)} (hR : Fits n R) {l : List Int} (hl : l.length = n ∧ areB l) : ∀ k, k ≤ R.length → (leftL R l k).length = n ∧ areB (leftL R l k)
  | 0, _ => hl
  | k + 1, h => addS_fits (leftL_fits hR hl k (by omega)).1 (getD_fits hR (by omega)).1 _
theorem leftL_vec {n : Nat} {R : List (List Int)} {p : List Nat} (hR : Fits n R) (h : Red (vecs R) p) {l : List Int} (hl : l.length = n ∧ areB l) : ∀ k, k ≤ R.length → vec (leftL R l k) = fun x => vec l x ^^^ S k (fun j => mul (vec l (p.getD j 0)) (row (vecs R) j x))
  | 0, _ => funext fun x => by show vec l x = vec l x ^^^ 0#8; rw [BitVec.xor_zero]
  | k + 1, hk => by
    have ih := leftL_vec hR h hl k (by omega)
    have hkR : k < R.length := by omega
    obtain ⟨a1, a2, a3⟩ := red_lead hR h hkR
    have hlen := (leftL_fits hR hl k (by omega)).1
    have hc : toG ((leftL R l k).getD (leadN (R.getD k [])).toNat 0) = vec l (p.getD k 0) := by
      rw [a2, Int.toNat_natCast]
      show vec (leftL R l k) (p.getD k 0) = _
      rw [ih]
      show vec l (p.getD k 0) ^^^ S k _ = _
      rw [S_zero fun j hj => by
        have := h.one j k (by rw [vecs_length]; omega) (by rw [vecs_length]; exact hkR)
        rw [this, if_neg (by omega), mul_zero]]
      exact BitVec.xor_zero
    show vec (addS (leftL R l k) (R.getD k []) _) = _
    unfold addS
    rw [vec_addScaled (by rw [hlen, (getD_fits hR hkR).1]), hc, ih]
    funext x
    show (vec l x ^^^ S k _) ^^^ mul _ (vec (R.getD k []) x) = vec l x ^^^ (S k _ ^^^ mul _ (row (vecs R) k x))
    rw [vecs_row, BitVec.xor_assoc]
theorem left_zero {n : Nat} {R : List (List Int)} {p : List Nat} (hR : Fits n R) (h : Red (vecs R) p) {l : List Int} (hl : l.length = n ∧ areB l) (hs : Sp (vecs R) (vec l)) : ∀ x, x ∈ leftL R l R.length → x = 0 := by
  have hv := leftL_vec hR h hl R.length (Nat.le_refl _)
  have hf := leftL_fits hR hl R.length (Nat.le_refl _)
  have e := h.coord hs
  have hz : vec (leftL R l R.length) = vz := by
    rw [hv]
    funext x
    have := congrFun e x
    unfold comb at this
    rw [vecs_length] at this
    show vec l x ^^^ S R.length _ = 0#8
    rw [← this]
    exact BitVec.xor_self
  intro x hx
  obtain ⟨j, hj, rfl⟩ := List.mem_iff_getElem.1 hx
  refine byte_eq (hf.2 _ (List.getElem_mem hj)) ⟨by decide, by decide⟩ ?_
  have := congrFun hz j
  rw [vec_lt hj] at this
  exact this
theorem left_sp {n : Nat} {R : List (List Int)} {p : List Nat} (hR : Fits n R) (h : Red (vecs R) p) {l : List Int} (hl : l.length = n ∧ areB l) (hz : ∀ x, x ∈ leftL R l R.length → x = 0) : Sp (vecs R) (vec l) := by
  have hv := leftL_vec hR h hl R.length (Nat.le_refl _)
  have h0 : vec (leftL R l R.length) = vz := by
    funext j
    unfold vec
    by_cases hj : j < (leftL R l R.length).length
    · rw [List.getD_eq_getElem?_getD, List.getElem?_eq_getElem hj, Option.getD_some, hz _ (List.getElem_mem hj)]; rfl
    · rw [List.getD_eq_getElem?_getD, List.getElem?_eq_none (by omega), Option.getD_none]; rfl
  rw [h0] at hv
  have e : vec l = comb (vecs R) (fun j => vec l (p.getD j 0)) := by
    funext x
    have := congrFun hv x
    unfold comb
    rw [vecs_length]
    have h2 : vec l x ^^^ S R.length (fun j => mul (vec l (p.getD j 0)) (row (vecs R) j x)) = 0#8 := this.symm
    have h3 : vec l x = S R.length (fun j => mul (vec l (p.getD j 0)) (row (vecs R) j x)) := by
      rw [← BitVec.xor_zero (x := S R.length _), ← h2, BitVec.xor_comm, BitVec.xor_assoc, BitVec.xor_self, BitVec.xor_zero]
    exact h3
  rw [e]
  exact comb_sp _ _
def hasB (l : List (List Int)) (v : List Int) : Bool := (leftL (redRows l v.length) v (redRows l v.length).length).all (fun z => z == 0)
theorem hasB_iff {n : Nat} {l : List (List Int)} (hl : Fits n l) {v : List Int} (hv : v.length = n ∧ areB v) : hasB l v = true ↔ Sp (vecs l) (vec v) := by
  obtain ⟨p, r1, r2, r3, _⟩ := redRows_spec hl
  unfold hasB
  rw [hv.1, List.all_eq_true]
  constructor
  · intro h
    exact (r2 _).2 (left_sp r3 r1 hv fun x hx => by simpa using h x hx)
  · intro h x hx
    have := left_zero r3 r1 hv ((r2 _).1 h) x hx
    simp [this]
end Go.Proofs.Ytpfaaljmefgpbaa.Plain
end
