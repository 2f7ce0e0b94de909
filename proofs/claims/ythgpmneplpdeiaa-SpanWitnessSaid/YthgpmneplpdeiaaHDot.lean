/- The contract of vector.Dot. -/
import Derived.Test.YthgpmneplpdeiaaHFun
import Derived.Test.YthgpmneplpdeiaaHVec
/-! The contracts of slices.IndexFunc over bytes, for whatever function value, and of vector.Lead and IsZero. -/
set_option linter.unusedVariables false
set_option linter.unusedSimpArgs false
namespace Go.Proofs.Ythgpmneplpdeiaa.Hand
open Go.RowKit Go.Proofs.YthgpmneplpdeiaaW.PrintWords Go.Proofs.YthgpmneplpdeiaaW.PrintLast Go.Proofs.YthgpmneplpdeiaaW.PrintMore
attribute [local go_sem] max2_int min2_int max_two min_two max_three min_three max_four min_four

/-! ### slices_IndexFunc_byte_byte: the contract, for whatever function value -/
def slices_IndexFunc_byte_byte.l0 (ff : Int → Option Bool) : Nat → List Int → Int → Int → Option (Int)
  | 0, _, _, _ => none
  | k + 1, x0, x7, x8 => if x8 < x7 then (if 0 ≤ x8 then (if x8 < (x0.length : Int) then ((ff (rd x0 x8)).bind fun t102 => (if t102 = true then (some x8) else (slices_IndexFunc_byte_byte.l0 ff k x0 x7 (wrap64 (x8 + 1))))) else (none)) else (none)) else (some (-1))
def slices_IndexFunc_byte_byte.f (ff : Int → Option Bool) (k : Nat) (l0 : List Int)  : Option (Int) := slices_IndexFunc_byte_byte.l0 ff k l0 (l0.length : Int) 0
set_option maxHeartbeats 8000000 in
set_option maxRecDepth 100000 in
theorem slices_IndexFunc_byte_byte.calls (ff : Int → Option Bool) (k : Nat) (A0 : Option Addr) (c0 : Nat) (l0 : List Int) (g : FuncId) (lb : Array Value) (hg : FnOk Try.prog g) (r : Int) (w : World) (hF : ∀ (x : Int) (r : Bool) (W : World), ff x = some r → Calls Try.prog g (#[.int .u8 x] ++ lb) W fun e w2 => e = .returned (.bool r) ∧ Drawn0 W w2) (hr0 : Kd.C (Kd.int .u8) w A0 l0.length l0) (hc0 : l0.length ≤ c0) (h : slices_IndexFunc_byte_byte.f ff k l0 = some r) :
    Calls Try.prog 55 #[.slice A0 l0.length c0, .func (.func g) #[] lb] w fun e w' => e = .returned (.int .i64 r) ∧ Drawn0 w w' := by
  have HR0 := Aside0.mk hr0
  have HC0 := Aside0.mk hc0
  clear hr0 hc0
  have HF := Aside0.mk hF
  clear hF
  have HG := Aside0.mk hg
  clear hg
  have H : (slices_IndexFunc_byte_byte.l0 ff k l0 (l0.length : Int) 0) = some r := h
  clear h
  have H' := Aside0.mk H
  clear H
  go_enter Try.func55, Try.ntmps55
  go_wp2
  go_loopg [8] k (fun kq v8 w' => ∃ (x8_1 : Int), v8 = .int .i64 x8_1 ∧ Aside0 (slices_IndexFunc_byte_byte.l0 ff kq l0 (l0.length : Int) x8_1 = some r) ∧ Aside0 (kq ≤ k) ∧ Drawn0 w w')
  case atStart => exact ⟨(0), (by first | rfl | (simp; done) | (simp [*]; done)), H', ⟨Nat.le_refl _⟩, by repeat (first | exact Drawn0.refl _ | apply Drawn0.step)⟩
  case round =>
    clear H'
    try clear p2
    obtain ⟨x8_1, rfl, HA, HK1, ⟨m1, rfl⟩⟩ := hrel
    cases gk with
    | zero => exact absurd HA.out (by simp [slices_IndexFunc_byte_byte.l0])
    | succ k1 =>
      have H := HA.out
      clear HA
      simp only [slices_IndexFunc_byte_byte.l0] at H
      by_cases c3 : x8_1 < (l0.length : Int)
      · rw [if_pos c3] at H
        have c3b0 : decide (x8_1 < (l0.length : Int)) = true := decide_eq_true c3
        clear c3
        by_cases c4 : 0 ≤ x8_1
        · rw [if_pos c4] at H
          have c4b0 : decide (0 ≤ x8_1) = true := decide_eq_true c4
          clear c4
          by_cases c5 : x8_1 < (l0.length : Int)
          · rw [if_pos c5] at H
            have c5b0 : decide (x8_1 < (l0.length : Int)) = true := decide_eq_true c5
            clear c5
            replace H := Option.bind_eq_some_iff.mp H
            obtain ⟨t102, A60, H⟩ := H
            replace H : (if t102 = true then (some x8_1) else (slices_IndexFunc_byte_byte.l0 ff k1 l0 (l0.length : Int) (wrap64 (x8_1 + 1)))) = some r := H
            have A6 := Aside0.mk A60
            clear A60
            by_cases c7 : t102 = true
            · subst c7
              have H1 : (some x8_1) = some r := by rw [if_pos rfl] at H; exact H
              clear H
              have H := H1
              clear H1
              obtain rfl := Option.some.inj H
              have p101 : 0 ≤ (x8_1 : Int) := of_decide_eq_true (by first | (with_reducible assumption) | assumption)
              have q101 : x8_1 < (l0.length : Int) := of_decide_eq_true (by first | (with_reducible assumption) | assumption)
              obtain ⟨ad101, e101, hx101_0⟩ := Kd.at_int HR0.out x8_1 p101 q101
              cases e101
              replace p101 := eq_true p101
              replace q101 := eq_true q101
              go_wp2_with (first | (refine goesVL_ (some 16) rfl rfl HG.out (.tmp 11) lb (by rfl) #[.int .u8 (rd l0 x8_1)] rfl (by (try simp only [List.map_toArray, List.map_cons, List.map_nil]); first | done | rfl | (simp only [List.length_drop, List.length_take]; rfl)) ?_; (with_reducible refine (HF.out (rd l0 x8_1) true _ A6.out).mono ?_); rintro e w' ⟨rfl, ⟨nd, rfl⟩⟩; refine ⟨_, rfl, ?_⟩))
              go_ret
              exact ⟨by first | rfl | (simp; done) | (simp [*]; done), by repeat (first | exact Drawn0.refl _ | apply Drawn0.step)⟩
            · replace c7 := Bool.eq_false_iff.mpr c7
              subst c7
              have H1 : (slices_IndexFunc_byte_byte.l0 ff k1 l0 (l0.length : Int) (wrap64 (x8_1 + 1))) = some r := by rw [if_neg (show ¬ (false = true) by decide)] at H; exact H
              clear H
              have H := H1
              clear H1
              have H' := Aside0.mk H
              clear H
              have p101 : 0 ≤ (x8_1 : Int) := of_decide_eq_true (by first | (with_reducible assumption) | assumption)
              have q101 : x8_1 < (l0.length : Int) := of_decide_eq_true (by first | (with_reducible assumption) | assumption)
              obtain ⟨ad101, e101, hx101_0⟩ := Kd.at_int HR0.out x8_1 p101 q101
              cases e101
              replace p101 := eq_true p101
              replace q101 := eq_true q101
              go_wp2_with (first | (refine goesVL_ (some 16) rfl rfl HG.out (.tmp 11) lb (by rfl) #[.int .u8 (rd l0 x8_1)] rfl (by (try simp only [List.map_toArray, List.map_cons, List.map_nil]); first | done | rfl | (simp only [List.length_drop, List.length_take]; rfl)) ?_; (with_reducible refine (HF.out (rd l0 x8_1) false _ A6.out).mono ?_); rintro e w' ⟨rfl, ⟨nd, rfl⟩⟩; refine ⟨_, rfl, ?_⟩))
              go_roundg k1
              case measure => have := HK1.out; omega
              case rel => exact ⟨(wrap64 (x8_1 + 1)), (by first | rfl | (simp; done) | (simp [*]; done)), H', ⟨by have := HK1.out; omega⟩, by repeat (first | exact Drawn0.refl _ | apply Drawn0.step)⟩
          · rw [if_neg c5] at H
            exact absurd H (by simp)
        · rw [if_neg c4] at H
          exact absurd H (by simp)
      · rw [if_neg c3] at H
        have c3b0 : decide (x8_1 < (l0.length : Int)) = false := decide_eq_false c3
        clear c3
        obtain rfl := Option.some.inj H
        go_wp2
        go_ret
        exact ⟨by first | rfl | (simp; done) | (simp [*]; done), by repeat (first | exact Drawn0.refl _ | apply Drawn0.step)⟩

/-! ### the first place that is not 0 -/
/-- the first place of a row that is not 0; -1 where there is none -/
def leadN (l : List Int) : Int := if l.findIdx (fun x => x != 0) < l.length then (l.findIdx (fun x => x != 0) : Int) else -1
theorem idx_loop (p : Int → Bool) (l : List Int) (hl : l.length < 9223372036854775807) (d : Nat) : ∀ (i k : Nat), i + d = l.length → d < k → (∀ j < i, p (l.getD j 0) = false) →
    slices_IndexFunc_byte_byte.l0 (fun x => some (p x)) k l (l.length : Int) i = some (if l.findIdx p < l.length then (l.findIdx p : Int) else -1) := by
  induction d with
  | zero =>
    intro i k hi hk hp
    obtain ⟨k, rfl⟩ : ∃ m, k = m + 1 := ⟨k - 1, by omega⟩
    simp only [slices_IndexFunc_byte_byte.l0]
    rw [if_neg (by omega), if_neg]
    intro h
    have h2 := List.findIdx_getElem (w := h)
    have h3 := hp (l.findIdx p) (by omega)
    rw [List.getD_eq_getElem?_getD, List.getElem?_eq_getElem h, Option.getD_some] at h3
    rw [h3] at h2; cases h2
  | succ d ih =>
    intro i k hi hk hp
    obtain ⟨k, rfl⟩ : ∃ m, k = m + 1 := ⟨k - 1, by omega⟩
    simp only [slices_IndexFunc_byte_byte.l0]
    have hil : i < l.length := by omega
    have hrd : rd l (i : Int) = l[i] := by unfold rd; rw [Int.toNat_natCast, List.getD_eq_getElem?_getD, List.getElem?_eq_getElem hil, Option.getD_some]
    rw [if_pos (by omega), if_pos (by omega), if_pos (by omega), Option.bind_some, hrd]
    by_cases c : p l[i] = true
    · rw [if_pos c]
      have h1 : l.findIdx p = i := by
        refine (List.findIdx_eq hil).2 ⟨c, fun j hj => ?_⟩
        have := hp j hj
        rwa [List.getD_eq_getElem?_getD, List.getElem?_eq_getElem (by omega), Option.getD_some] at this
      rw [h1, if_pos hil]
    · rw [if_neg c, show wrap64 ((i : Int) + 1) = ((i + 1 : Nat) : Int) from by unfold wrap64; omega]
      refine ih (i + 1) k (by omega) (by omega) fun j hj => ?_
      by_cases e : j = i
      · subst e; rw [List.getD_eq_getElem?_getD, List.getElem?_eq_getElem hil, Option.getD_some]; simpa using c
      · exact hp j (by omega)
theorem idx_f (p : Int → Bool) (l : List Int) (hl : l.length < 9223372036854775807) : slices_IndexFunc_byte_byte.f (fun x => some (p x)) (l.length + 1) l = some (if l.findIdx p < l.length then (l.findIdx p : Int) else -1) :=
  idx_loop p l hl l.length 0 _ (by omega) (by omega) (by omega)
theorem ok_lead : FnOk Try.prog 56 := ⟨⟨_, Try.func56, by rfl, rfl⟩⟩
set_option maxRecDepth 100000 in
theorem lead_fn (a : Int) (w : World) : Calls Try.prog 56 #[.int .u8 a] w fun e w' => e = .returned (.bool (a != 0)) ∧ Drawn0 w w' := by
  go_enter Try.func56, Try.ntmps56
  go_wp2
  go_ret
  exact ⟨by first | rfl | (simp; done), Drawn0.refl _⟩
def vector_Lead.f (l0 : List Int) : Option Int := if l0.length < 9223372036854775807 then some (leadN l0) else none
set_option maxRecDepth 100000 in
theorem vector_Lead.calls (A0 : Option Addr) (c0 : Nat) (l0 : List Int) (r : Int) (w : World) (hr0 : Kd.C (Kd.int .u8) w A0 l0.length l0) (hc0 : l0.length ≤ c0) (h : vector_Lead.f l0 = some r) :
    Calls Try.prog 35 #[.slice A0 l0.length c0] w fun e w' => e = .returned (.int .i64 r) ∧ Drawn0 w w' := by
  have hf : slices_IndexFunc_byte_byte.f (fun x => some (x != 0)) (l0.length + 1) l0 = some r := by
    unfold vector_Lead.f at h
    by_cases n : l0.length < 9223372036854775807
    · rw [if_pos n] at h
      rw [← h]; exact idx_f _ l0 n
    · rw [if_neg n] at h; cases h
  have HE := Aside0.mk (fun (w1 : World) (a : Kd.C (Kd.int .u8) w1 A0 l0.length l0) => slices_IndexFunc_byte_byte.calls (fun x => some (x != 0)) (l0.length + 1) A0 c0 l0 56 #[] ok_lead r w1 (fun x r W hr => by obtain rfl := Option.some.inj hr; simpa using lead_fn x W) a hc0 hf)
  have HR0 := Aside0.mk hr0
  clear hf h hr0
  go_enter Try.func35, Try.ntmps35
  go_wp2_with (go_at_call 55; refine (HE.out _ HR0.out).mono ?_; rintro e w1 ⟨rfl, nd⟩)
  go_ret
  exact ⟨rfl, nd⟩
end Go.Proofs.Ythgpmneplpdeiaa.Hand

/-! The contract of vector.Dot. -/
set_option linter.unusedVariables false
set_option linter.unusedSimpArgs false
namespace Go.Proofs.Ythgpmneplpdeiaa.Hand
open Go.RowKit Go.Proofs.YthgpmneplpdeiaaW.PrintWords Go.Proofs.YthgpmneplpdeiaaW.PrintLast Go.Proofs.YthgpmneplpdeiaaW.PrintMore
attribute [local go_sem] max2_int min2_int max_two min_two max_three min_three max_four min_four

def dotI (l0 l1 : List Int) : Int := (List.zipWith gm l0 l1).foldl xr 0
end Go.Proofs.Ythgpmneplpdeiaa.Hand
