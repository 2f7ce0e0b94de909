/- The contract of matrix.Same (slices.EqualFunc over rows with bytes.Equal). -/
import Derived.Test.YthgpmneplpdeiaaHSize
import Derived.Test.YthgpmneplpdeiaaHVec
import Derived.Test.YthgpmneplpdeiaaPK1
set_option linter.unusedVariables false
set_option linter.unusedSimpArgs false
namespace Go.Proofs.Ythgpmneplpdeiaa.Hand
open Go.RowKit Go.Proofs.YthgpmneplpdeiaaW.PrintWords Go.Proofs.YthgpmneplpdeiaaW.PrintLast Go.Proofs.YthgpmneplpdeiaaW.PrintMore
theorem strOf_inj : ∀ {a b : List Int}, areB a → areB b → (strOfNums a).toList = (strOfNums b).toList → a = b := by
  intro a b ha hb h
  have h1 : (strOfNums a).data.toList = (strOfNums b).data.toList := by
    rw [ByteArray.toList_eq, ByteArray.toList_eq] at h
    exact h
  rw [strOfNums_data, strOfNums_data] at h1
  clear h
  induction a generalizing b with
  | nil => cases b with
    | nil => rfl
    | cons y b => cases h1
  | cons x a ih => cases b with
    | nil => cases h1
    | cons y b =>
      simp only [List.map_cons, List.cons.injEq] at h1
      have hx := ha x (List.mem_cons_self)
      have hy := hb y (List.mem_cons_self)
      have e : x = y := by
        have h2 := congrArg UInt8.toNat h1.1
        rw [UInt8.toNat_ofNat', UInt8.toNat_ofNat'] at h2
        have := hx.1; have := hx.2; have := hy.1; have := hy.2
        omega
      rw [e, ih (fun z hz => ha z (List.mem_cons_of_mem _ hz)) (fun z hz => hb z (List.mem_cons_of_mem _ hz)) h1.2]
theorem bytesEq_f {a b : List Int} (ha : areB a) (hb : areB b) : PK.bytes_Equal.f a b = some (decide (a = b)) := by
  unfold PK.bytes_Equal.f
  by_cases e : a = b
  · subst e; simp
  · congr 1
    rw [decide_eq_false e]
    exact beq_eq_false_iff_ne.2 (fun h => e (strOf_inj ha hb h))
def matrix_Same.f (l0 l1 : List (List Int)) : Option Bool := if l0.length < 1000000000 ∧ (∀ x ∈ l0, areB x) ∧ (∀ x ∈ l1, areB x) then some (decide (l0 = l1)) else none
theorem ok_equal : FnOk Try.prog 45 := ⟨⟨_, Try.func45, by rfl, rfl⟩⟩
set_option maxHeartbeats 4000000 in
set_option maxRecDepth 100000 in
theorem equalFunc_calls (A0 : Option Addr) (c0 : Nat) (l0 : List (List Int)) (A1 : Option Addr) (c1 : Nat) (l1 : List (List Int)) (w : World) (hr0 : Kd.C (Kd.slice 5 (Kd.int .u8)) w A0 l0.length l0) (hr1 : Kd.C (Kd.slice 5 (Kd.int .u8)) w A1 l1.length l1)
    (hl : l0.length < 1000000000) (h0 : ∀ x ∈ l0, areB x) (h1 : ∀ x ∈ l1, areB x) :
    Calls Try.prog 44 #[.slice A0 l0.length c0, .slice A1 l1.length c1, .func (.func 45) #[] #[]] w fun e w' => e = .returned (.bool (decide (l0 = l1))) ∧ Drawn0 w w' := by
  have HR0 := Aside0.mk hr0
  have HR1 := Aside0.mk hr1
  have HB0 := Aside0.mk h0
  have HB1 := Aside0.mk h1
  have HL := Aside0.mk hl
  clear hr0 hr1 h0 h1 hl
  by_cases hn : l0.length = l1.length
  · have q0 : ((l0.length : Int) != (l1.length : Int)) = false := by simp [hn]
    have Hn := Aside0.mk hn
    clear hn
    go_enter Try.func44, Try.ntmps44
    go_wp2
    go_loopg [17] l0.length (fun kq v17 w' => ∃ i : Nat, v17 = .int .i64 (i : Int) ∧ Aside0 (kq + i = l0.length) ∧ Aside0 (∀ j, j < i → l0[j]? = l1[j]?) ∧ Aside0 (Drawn0 w w'))
    case atStart => exact ⟨0, rfl, ⟨by omega⟩, ⟨fun j hj => absurd hj (by omega)⟩, ⟨Drawn0.refl _⟩⟩
    case round =>
      obtain ⟨i, rfl, HI, HE, HD⟩ := hrel
      by_cases hi : i < l0.length
      · have hi' : i < l1.length := by have := Hn.out; omega
        have q1 : decide ((i : Int) < (l0.length : Int)) = true := decide_eq_true (by omega)
        have p0 : (0 : Int) ≤ (i : Int) := by omega
        have p1 : (i : Int) < (l0.length : Int) := by omega
        have p2 : (i : Int) < (l1.length : Int) := by omega
        obtain ⟨ad, Ai, ci, e1, hx1, hl1, hi1⟩ := at_R HR0.out (i : Int) p0 p1
        cases e1
        obtain ⟨bd, Bi, di, e2, hx2, hl2, hi2⟩ := at_R HR1.out (i : Int) p0 p2
        cases e2
        have er : rdR l0 (i : Int) = l0[i] := by unfold rdR; rw [Int.toNat_natCast, List.getD_eq_getElem?_getD, List.getElem?_eq_getElem hi, Option.getD_some]
        have er' : rdR l1 (i : Int) = l1[i] := by unfold rdR; rw [Int.toNat_natCast, List.getD_eq_getElem?_getD, List.getElem?_eq_getElem hi', Option.getD_some]
        rw [er] at hx1 hl1 hi1
        rw [er'] at hx2 hl2 hi2
        rw [Int.toNat_natCast] at hx1 hx2
        replace hx1 := (HD.out.below.cell (World.block_lt_of_cell? _ _ hx1)).trans hx1
        replace hx2 := (HD.out.below.cell (World.block_lt_of_cell? _ _ hx2)).trans hx2
        have HF := Aside0.mk (PK.bytes_Equal.calls Ai ci l0[i] Bi di l1[i] _ wr (Kd.C_below hi1 HD.out.below) hl1 (Kd.C_below hi2 HD.out.below) hl2 (bytesEq_f (HB0.out _ (List.getElem_mem hi)) (HB1.out _ (List.getElem_mem hi'))))
        have G0 := Aside0.mk (List.getElem?_eq_getElem hi)
        have G1 := Aside0.mk (List.getElem?_eq_getElem hi')
        have hi9 : (i : Int) ≤ 1000000000 := by have := HL.out; omega
        have hi8 := p0
        have q4 := eq_true p0
        have q5 := eq_true p1
        have q6 := eq_true hi
        have q7 := eq_true p2
        have q8 := eq_true hi'
        have Hi := Aside0.mk hi
        generalize l0[i] = x at *
        generalize l1[i] = y at *
        clear p0 p1 p2 hi hi' er er' hi1 hl1 hi2 hl2
        by_cases e : x = y
        · rw [decide_eq_true e] at HF
          have E := Aside0.mk e
          clear e
          cases gk with
          | zero => exact absurd HI.out (by have := Hi.out; omega)
          | succ k1 =>
            go_wp2_with (go_at_call 45; refine HF.out.mono ?_; rintro e w2 ⟨rfl, hd⟩; have HD2 := Aside0.mk hd; clear hd)
            go_roundg k1
            case measure => omega
            case rel => exact ⟨i + 1, by go_num, ⟨by have := HI.out; omega⟩, ⟨fun j hj => by
              by_cases e : j = i
              · rw [e, G0.out, G1.out, E.out]
              · exact HE.out j (by omega)⟩, ⟨by obtain ⟨⟨n, h⟩⟩ := HD2.out; rw [h]; exact HD.out.step n⟩⟩
        · rw [decide_eq_false e] at HF
          have E := Aside0.mk e
          clear e
          go_wp2_with (go_at_call 45; refine HF.out.mono ?_; rintro e w2 ⟨rfl, hd⟩; have HD2 := Aside0.mk hd; clear hd)
          go_ret
          have hne : l0 ≠ l1 := fun h => E.out (by have := G0.out; rw [h, G1.out] at this; injection this with this; exact this.symm)
          exact ⟨by rw [decide_eq_false hne]; rfl, by obtain ⟨⟨n, h⟩⟩ := HD2.out; rw [h]; exact HD.out.step n⟩
      · have q1 : decide ((i : Int) < (l0.length : Int)) = false := decide_eq_false (by omega)
        have e : i = l0.length := by have := HI.out; omega
        subst e
        go_wp2
        go_ret
        have hee : l0 = l1 := List.ext_getElem? fun j => by
          by_cases h : j < l0.length
          · exact HE.out j h
          · rw [List.getElem?_eq_none (by omega), List.getElem?_eq_none (by have := Hn.out; omega)]
        exact ⟨by rw [decide_eq_true hee]; rfl, HD.out⟩
  · have q0 : ((l0.length : Int) != (l1.length : Int)) = true := by simp; omega
    have hne : decide (l0 = l1) = false := decide_eq_false (fun e => hn (by rw [e]))
    rw [hne]
    clear hn hne
    go_enter Try.func44, Try.ntmps44
    go_wp2
    go_ret
    exact ⟨rfl, Drawn0.refl _⟩
set_option maxHeartbeats 1000000 in
set_option maxRecDepth 100000 in
theorem matrix_Same.calls (A0 : Option Addr) (c0 : Nat) (l0 : List (List Int)) (A1 : Option Addr) (c1 : Nat) (l1 : List (List Int)) (r : Bool) (w : World) (hr0 : Kd.C (Kd.slice 5 (Kd.int .u8)) w A0 l0.length l0) (hc0 : l0.length ≤ c0) (hr1 : Kd.C (Kd.slice 5 (Kd.int .u8)) w A1 l1.length l1) (hc1 : l1.length ≤ c1) (h : matrix_Same.f l0 l1 = some r) :
    Calls Try.prog 28 #[.slice A0 l0.length c0, .slice A1 l1.length c1] w fun e w' => e = .returned (.bool r) ∧ Drawn0 w w' := by
  unfold matrix_Same.f at h
  by_cases hb : l0.length < 1000000000 ∧ (∀ x ∈ l0, areB x) ∧ (∀ x ∈ l1, areB x)
  · rw [if_pos hb] at h
    obtain rfl := Option.some.inj h
    have HE := Aside0.mk (equalFunc_calls A0 c0 l0 A1 c1 l1 w hr0 hr1 hb.1 hb.2.1 hb.2.2)
    clear h hr0 hr1 hb
    generalize decide (l0 = l1) = b at *
    go_enter Try.func28, Try.ntmps28
    go_wp2_with (go_at_call 44; refine HE.out.mono ?_; rintro e w2 ⟨rfl, hd⟩)
    go_ret
    exact ⟨rfl, hd⟩
  · rw [if_neg hb] at h; cases h
end Go.Proofs.Ythgpmneplpdeiaa.Hand
