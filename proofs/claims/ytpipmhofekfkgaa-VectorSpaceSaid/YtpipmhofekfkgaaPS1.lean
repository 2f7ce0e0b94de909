/- Written by a program of this session out of the translation: the Go functions of this seat as Lean functions, with the walks that show that the Go code answers as these functions do. -/
import Derived.Test.YtpipmhofekfkgaaPS0
namespace Go.Proofs.Ytpipmhofekfkgaa.PS
open Go.Proofs.Ytpipmhofekfkgaa.Hand Go.Proofs.Ytpipmhofekfkgaa.P Go.RowKit Go.Proofs.YtpipmhofekfkgaaW.PrintWords Go.Proofs.YtpipmhofekfkgaaW.PrintLast Go.Proofs.YtpipmhofekfkgaaW.PrintMore
attribute [local go_sem] max2_int min2_int max_two min_two max_three min_three max_four min_four   -- for this text's walks alone
set_option linter.unusedVariables false
set_option linter.unusedSimpArgs false

-- by hand: function 10 (braidworklaw02_wakes)

-- by hand: function 14 (vector_Add)

-- by hand: function 16 (vector_AddScaled)

-- by hand: function 19 (vector_Scale)

-- by hand: function 21 (vector_Lead)

/-! ### vector_IsZero: function 23 -/
def vector_IsZero.f (l0 : List Int) : Option (Bool) := (vector_Lead.f l0).bind fun t101 => (some (decide (t101 < 0)))
set_option maxHeartbeats 8000000 in
set_option maxRecDepth 100000 in
theorem vector_IsZero.calls (A0 : Option Addr) (c0 : Nat) (l0 : List Int) (r : Bool) (w : World) (hr0 : Kd.C (Kd.int .u8) w A0 l0.length l0) (hc0 : l0.length ≤ c0) (h : vector_IsZero.f l0 = some r) :
    Calls Try.prog 23 #[.slice A0 l0.length c0] w fun e w' => e = .returned (.bool r) ∧ Drawn0 w w' := by
  have HR0 := Aside0.mk hr0
  have HC0 := Aside0.mk hc0
  clear hr0 hc0
  have H : ((vector_Lead.f l0).bind fun t101 => (some (decide (t101 < 0)))) = some r := h
  clear h
  replace H := Option.bind_eq_some_iff.mp H
  obtain ⟨t101, A20, H⟩ := H
  replace H : (some (decide (t101 < 0))) = some r := H
  have A2 := Aside0.mk A20
  clear A20
  obtain rfl := Option.some.inj H
  go_enter Try.func23, Try.ntmps23
  go_wp2_with (first | ((with_reducible refine gate_callee (f := 21) rfl ?_); refine goesL_ (some 4) rfl rfl Try.func21 (by kernel_rfl) rfl #[.slice A0 l0.length c0] rfl (by (try simp only [List.map_toArray, List.map_cons, List.map_nil]); first | done | rfl | (simp only [List.length_drop, List.length_take]; rfl)) ?_; (with_reducible refine (vector_Lead.calls _ _ l0 t101 _ ?side1 ?side2 A2.out).mono ?_); (case side1 => repeat (first | exact HR0.out | (with_reducible refine Kd.C_alloc ?_ _) | (with_reducible refine Kd.C_drewN ?_ _) | (with_reducible refine Kd.C_drew ?_))); (case side2 => exact HC0.out); rintro e w' ⟨rfl, ⟨nd, rfl⟩⟩; refine ⟨_, rfl, ?_⟩))
  go_ret
  exact ⟨by first | rfl | (simp; done) | (simp [*]; done), by repeat (first | exact Drawn0.refl _ | apply Drawn0.step)⟩

/-! ### field_Add: function 24 -/
def field_Add.f (a0 : Int) (a1 : Int) : Option (Int) := some (Go.bits .xor .u8 a0 a1)
set_option maxHeartbeats 8000000 in
set_option maxRecDepth 100000 in
theorem field_Add.calls (a0 : Int) (a1 : Int) (r : Int) (w : World) (h : field_Add.f a0 a1 = some r) :
    Calls Try.prog 24 #[.int .u8 a0, .int .u8 a1] w fun e w' => e = .returned (.int .u8 r) ∧ Drawn0 w w' := by
  have H : (some (Go.bits .xor .u8 a0 a1)) = some r := h
  clear h
  obtain rfl := Option.some.inj H
  go_enter Try.func24, Try.ntmps24
  go_wp2
  go_ret
  exact ⟨by first | rfl | (simp; done) | (simp [*]; done), by repeat (first | exact Drawn0.refl _ | apply Drawn0.step)⟩

-- by hand: function 25 (field_Mul)

/-! ### braidworklaw02_VectorSpace: function 5 -/
mutual
def braidworklaw02_VectorSpace.j0 : Nat → List Int → List Int → Int → Int → List Int → Bool → Option (Bool)
  | 0, _, _, _, _, _, _ => none
  | k + 1, x0, x1, x3, x4, x12, x113 => if x113 = true then (none) else ((vector_Scale.f x0 x3).bind fun t130 => ((vector_Scale.f x1 x3).bind fun t133 => ((vector_Add.f t130 t133).bind fun bt136 => ((vector_AddScaled.f x0 x1 x3).bind fun bt140 => ((vector_Add.f x0 t133).bind fun bt144 => ((vector_Scale.f x12 x3).bind fun t148 => (if (strOfNums t148).toList = (strOfNums bt136.1).toList then (braidworklaw02_VectorSpace.j1 k x0 x3 x4 t130 ((strOfNums bt140.1).toList != (strOfNums bt144.1).toList)) else (braidworklaw02_VectorSpace.j1 k x0 x3 x4 t130 true))))))))
def braidworklaw02_VectorSpace.j1 : Nat → List Int → Int → Int → List Int → Bool → Option (Bool)
  | 0, _, _, _, _, _ => none
  | k + 1, x0, x3, x4, x24, x152 => if x152 = true then (none) else ((vector_Scale.f x0 x4).bind fun t151 => ((vector_Add.f x24 t151).bind fun bt154 => ((field_Add.f x3 x4).bind fun t158 => ((vector_Scale.f x0 t158).bind fun t159 => (if (strOfNums t159).toList = (strOfNums bt154.1).toList then ((vector_Scale.f t151 x3).bind fun t162 => ((field_Mul.f x3 x4).bind fun t165 => ((vector_Scale.f x0 t165).bind fun t166 => (if (strOfNums t162).toList = (strOfNums t166).toList then ((vector_Scale.f x0 1).bind fun t169 => (if (strOfNums t169).toList = (strOfNums x0).toList then ((vector_Scale.f x0 0).bind fun t172 => ((vector_IsZero.f t172).bind fun t175 => (braidworklaw02_VectorSpace.j2 k x0 x3 x24 (!t175)))) else (braidworklaw02_VectorSpace.j2 k x0 x3 x24 true))) else (braidworklaw02_VectorSpace.j2 k x0 x3 x24 true))))) else (braidworklaw02_VectorSpace.j2 k x0 x3 x24 true))))))
def braidworklaw02_VectorSpace.j2 : Nat → List Int → Int → List Int → Bool → Option (Bool)
  | 0, _, _, _, _ => none
  | k + 1, x0, x3, x24, x197 => if x197 = true then (none) else (if x3 = 0 then ((braidworklaw02_wakes.f k).bind fun t176 => (some t176)) else ((vector_Lead.f x24).bind fun t177 => ((vector_Lead.f x0).bind fun t178 => (if t177 = t178 then ((braidworklaw02_wakes.f k).bind fun t179 => (some t179)) else (none)))))
end
def braidworklaw02_VectorSpace.f (k : Nat) (l0 : List Int) (l1 : List Int) (l2 : List Int) (a3 : Int) (a4 : Int) : Option (Bool) := if 0 ≤ (mn (mn (l0.length : Int) (l1.length : Int)) (l2.length : Int)) then (if (mn (mn (l0.length : Int) (l1.length : Int)) (l2.length : Int)) ≤ (l0.length : Int) then (if (mn (mn (l0.length : Int) (l1.length : Int)) (l2.length : Int)) ≤ (l1.length : Int) then (if (mn (mn (l0.length : Int) (l1.length : Int)) (l2.length : Int)) ≤ (l2.length : Int) then ((vector_Add.f (l0.take ((mn (mn (l0.length : Int) (l1.length : Int)) (l2.length : Int)) : Int).toNat) (l1.take ((mn (mn (l0.length : Int) (l1.length : Int)) (l2.length : Int)) : Int).toNat)).bind fun bt105 => ((vector_Add.f (l1.take ((mn (mn (l0.length : Int) (l1.length : Int)) (l2.length : Int)) : Int).toNat) (l0.take ((mn (mn (l0.length : Int) (l1.length : Int)) (l2.length : Int)) : Int).toNat)).bind fun bt109 => ((vector_Add.f (l1.take ((mn (mn (l0.length : Int) (l1.length : Int)) (l2.length : Int)) : Int).toNat) (l2.take ((mn (mn (l0.length : Int) (l1.length : Int)) (l2.length : Int)) : Int).toNat)).bind fun bt113 => ((vector_Add.f bt105.1 (l2.take ((mn (mn (l0.length : Int) (l1.length : Int)) (l2.length : Int)) : Int).toNat)).bind fun bt117 => ((vector_Add.f (l0.take ((mn (mn (l0.length : Int) (l1.length : Int)) (l2.length : Int)) : Int).toNat) bt113.1).bind fun bt121 => ((vector_Add.f (l0.take ((mn (mn (l0.length : Int) (l1.length : Int)) (l2.length : Int)) : Int).toNat) (l0.take ((mn (mn (l0.length : Int) (l1.length : Int)) (l2.length : Int)) : Int).toNat)).bind fun bt125 => (if (strOfNums bt105.1).toList = (strOfNums bt109.1).toList then (if (strOfNums bt117.1).toList = (strOfNums bt121.1).toList then (if bt125.2 = 0 then ((vector_IsZero.f bt125.1).bind fun t129 => (if t129 = true then (braidworklaw02_VectorSpace.j0 k (l0.take ((mn (mn (l0.length : Int) (l1.length : Int)) (l2.length : Int)) : Int).toNat) (l1.take ((mn (mn (l0.length : Int) (l1.length : Int)) (l2.length : Int)) : Int).toNat) a3 a4 bt105.1 ((bt125.1.length : Int) != (mn (mn (l0.length : Int) (l1.length : Int)) (l2.length : Int)))) else (braidworklaw02_VectorSpace.j0 k (l0.take ((mn (mn (l0.length : Int) (l1.length : Int)) (l2.length : Int)) : Int).toNat) (l1.take ((mn (mn (l0.length : Int) (l1.length : Int)) (l2.length : Int)) : Int).toNat) a3 a4 bt105.1 true))) else (braidworklaw02_VectorSpace.j0 k (l0.take ((mn (mn (l0.length : Int) (l1.length : Int)) (l2.length : Int)) : Int).toNat) (l1.take ((mn (mn (l0.length : Int) (l1.length : Int)) (l2.length : Int)) : Int).toNat) a3 a4 bt105.1 true)) else (braidworklaw02_VectorSpace.j0 k (l0.take ((mn (mn (l0.length : Int) (l1.length : Int)) (l2.length : Int)) : Int).toNat) (l1.take ((mn (mn (l0.length : Int) (l1.length : Int)) (l2.length : Int)) : Int).toNat) a3 a4 bt105.1 true)) else (braidworklaw02_VectorSpace.j0 k (l0.take ((mn (mn (l0.length : Int) (l1.length : Int)) (l2.length : Int)) : Int).toNat) (l1.take ((mn (mn (l0.length : Int) (l1.length : Int)) (l2.length : Int)) : Int).toNat) a3 a4 bt105.1 true)))))))) else (none)) else (none)) else (none)) else (none)
theorem braidworklaw02_VectorSpace.mono_l : ∀ k, (∀ y0 y1 y2 y3 y4 y5, LeO (braidworklaw02_VectorSpace.j0 k y0 y1 y2 y3 y4 y5) (braidworklaw02_VectorSpace.j0 (k + 1) y0 y1 y2 y3 y4 y5)) ∧ (∀ y0 y1 y2 y3 y4, LeO (braidworklaw02_VectorSpace.j1 k y0 y1 y2 y3 y4) (braidworklaw02_VectorSpace.j1 (k + 1) y0 y1 y2 y3 y4)) ∧ (∀ y0 y1 y2 y3, LeO (braidworklaw02_VectorSpace.j2 k y0 y1 y2 y3) (braidworklaw02_VectorSpace.j2 (k + 1) y0 y1 y2 y3))
  | 0 => ⟨fun _ _ _ _ _ _ r h => by simp [braidworklaw02_VectorSpace.j0] at h, fun _ _ _ _ _ r h => by simp [braidworklaw02_VectorSpace.j1] at h, fun _ _ _ _ r h => by simp [braidworklaw02_VectorSpace.j2] at h⟩
  | k + 1 => by
    obtain ⟨ih0, ih1, ih2⟩ := braidworklaw02_VectorSpace.mono_l k
    refine ⟨?_, ?_, ?_⟩
    · intro y0 y1 y2 y3 y4 y5
      unfold braidworklaw02_VectorSpace.j0
      repeat' first
      | (with_reducible exact ih0 _ _ _ _ _ _)
      | (with_reducible exact ih1 _ _ _ _ _)
      | (with_reducible exact ih2 _ _ _ _)
      | (with_reducible exact braidworklaw02_wakes.mono _)
      | (with_reducible exact LeO.refl _)
      | (with_reducible exact LeO.none _)
      | (with_reducible refine LeO.ite ?_ ?_)
      | (with_reducible refine LeO.bind ?_ (fun _ => ?_))
      | exact ih0 _ _ _ _ _ _
      | exact ih1 _ _ _ _ _
      | exact ih2 _ _ _ _
      | exact braidworklaw02_wakes.mono _
      | exact LeO.none _
      | refine LeO.ite ?_ ?_
      | refine LeO.bind ?_ (fun _ => ?_)
    · intro y0 y1 y2 y3 y4
      unfold braidworklaw02_VectorSpace.j1
      repeat' first
      | (with_reducible exact ih0 _ _ _ _ _ _)
      | (with_reducible exact ih1 _ _ _ _ _)
      | (with_reducible exact ih2 _ _ _ _)
      | (with_reducible exact braidworklaw02_wakes.mono _)
      | (with_reducible exact LeO.refl _)
      | (with_reducible exact LeO.none _)
      | (with_reducible refine LeO.ite ?_ ?_)
      | (with_reducible refine LeO.bind ?_ (fun _ => ?_))
      | exact ih0 _ _ _ _ _ _
      | exact ih1 _ _ _ _ _
      | exact ih2 _ _ _ _
      | exact braidworklaw02_wakes.mono _
      | exact LeO.none _
      | refine LeO.ite ?_ ?_
      | refine LeO.bind ?_ (fun _ => ?_)
    · intro y0 y1 y2 y3
      unfold braidworklaw02_VectorSpace.j2
      repeat' first
      | (with_reducible exact ih0 _ _ _ _ _ _)
      | (with_reducible exact ih1 _ _ _ _ _)
      | (with_reducible exact ih2 _ _ _ _)
      | (with_reducible exact braidworklaw02_wakes.mono _)
      | (with_reducible exact LeO.refl _)
      | (with_reducible exact LeO.none _)
      | (with_reducible refine LeO.ite ?_ ?_)
      | (with_reducible refine LeO.bind ?_ (fun _ => ?_))
      | exact ih0 _ _ _ _ _ _
      | exact ih1 _ _ _ _ _
      | exact ih2 _ _ _ _
      | exact braidworklaw02_wakes.mono _
      | exact LeO.none _
      | refine LeO.ite ?_ ?_
      | refine LeO.bind ?_ (fun _ => ?_)
theorem braidworklaw02_VectorSpace.mono : ∀ a0 a1 a2 a3 a4 k, LeO (braidworklaw02_VectorSpace.f k a0 a1 a2 a3 a4) (braidworklaw02_VectorSpace.f (k + 1) a0 a1 a2 a3 a4) := by
  intro a0 a1 a2 a3 a4 k
  obtain ⟨ih0, ih1, ih2⟩ := braidworklaw02_VectorSpace.mono_l k
  unfold braidworklaw02_VectorSpace.f
  repeat' first
      | (with_reducible exact ih0 _ _ _ _ _ _)
      | (with_reducible exact ih1 _ _ _ _ _)
      | (with_reducible exact ih2 _ _ _ _)
      | (with_reducible exact braidworklaw02_wakes.mono _)
      | (with_reducible exact LeO.refl _)
      | (with_reducible exact LeO.none _)
      | (with_reducible refine LeO.ite ?_ ?_)
      | (with_reducible refine LeO.bind ?_ (fun _ => ?_))
      | exact ih0 _ _ _ _ _ _
      | exact ih1 _ _ _ _ _
      | exact ih2 _ _ _ _
      | exact braidworklaw02_wakes.mono _
      | exact LeO.none _
      | refine LeO.ite ?_ ?_
      | refine LeO.bind ?_ (fun _ => ?_)
set_option maxHeartbeats 8000000 in
set_option maxRecDepth 100000 in
theorem braidworklaw02_VectorSpace.calls (k : Nat) (A0 : Option Addr) (c0 : Nat) (l0 : List Int) (A1 : Option Addr) (c1 : Nat) (l1 : List Int) (A2 : Option Addr) (c2 : Nat) (l2 : List Int) (a3 : Int) (a4 : Int) (r : Bool) (w : World) (hr0 : Kd.C (Kd.int .u8) w A0 l0.length l0) (hc0 : l0.length ≤ c0) (hr1 : Kd.C (Kd.int .u8) w A1 l1.length l1) (hc1 : l1.length ≤ c1) (hr2 : Kd.C (Kd.int .u8) w A2 l2.length l2) (hc2 : l2.length ≤ c2) (h : braidworklaw02_VectorSpace.f k l0 l1 l2 a3 a4 = some r) :
    Calls Try.prog 5 #[.slice A0 l0.length c0, .slice A1 l1.length c1, .slice A2 l2.length c2, .int .u8 a3, .int .u8 a4] w fun e w' => e = .returned (.bool r) ∧ Below w.heap.size w w' := by
  have HR0 := Aside0.mk hr0
  have HC0 := Aside0.mk hc0
  clear hr0 hc0
  have HR1 := Aside0.mk hr1
  have HC1 := Aside0.mk hc1
  clear hr1 hc1
  have HR2 := Aside0.mk hr2
  have HC2 := Aside0.mk hc2
  clear hr2 hc2
  have HB := Aside0.mk (Below.refl w.heap.size w)
  have H : (if 0 ≤ (mn (mn (l0.length : Int) (l1.length : Int)) (l2.length : Int)) then (if (mn (mn (l0.length : Int) (l1.length : Int)) (l2.length : Int)) ≤ (l0.length : Int) then (if (mn (mn (l0.length : Int) (l1.length : Int)) (l2.length : Int)) ≤ (l1.length : Int) then (if (mn (mn (l0.length : Int) (l1.length : Int)) (l2.length : Int)) ≤ (l2.length : Int) then ((vector_Add.f (l0.take ((mn (mn (l0.length : Int) (l1.length : Int)) (l2.length : Int)) : Int).toNat) (l1.take ((mn (mn (l0.length : Int) (l1.length : Int)) (l2.length : Int)) : Int).toNat)).bind fun bt105 => ((vector_Add.f (l1.take ((mn (mn (l0.length : Int) (l1.length : Int)) (l2.length : Int)) : Int).toNat) (l0.take ((mn (mn (l0.length : Int) (l1.length : Int)) (l2.length : Int)) : Int).toNat)).bind fun bt109 => ((vector_Add.f (l1.take ((mn (mn (l0.length : Int) (l1.length : Int)) (l2.length : Int)) : Int).toNat) (l2.take ((mn (mn (l0.length : Int) (l1.length : Int)) (l2.length : Int)) : Int).toNat)).bind fun bt113 => ((vector_Add.f bt105.1 (l2.take ((mn (mn (l0.length : Int) (l1.length : Int)) (l2.length : Int)) : Int).toNat)).bind fun bt117 => ((vector_Add.f (l0.take ((mn (mn (l0.length : Int) (l1.length : Int)) (l2.length : Int)) : Int).toNat) bt113.1).bind fun bt121 => ((vector_Add.f (l0.take ((mn (mn (l0.length : Int) (l1.length : Int)) (l2.length : Int)) : Int).toNat) (l0.take ((mn (mn (l0.length : Int) (l1.length : Int)) (l2.length : Int)) : Int).toNat)).bind fun bt125 => (if (strOfNums bt105.1).toList = (strOfNums bt109.1).toList then (if (strOfNums bt117.1).toList = (strOfNums bt121.1).toList then (if bt125.2 = 0 then ((vector_IsZero.f bt125.1).bind fun t129 => (if t129 = true then (braidworklaw02_VectorSpace.j0 k (l0.take ((mn (mn (l0.length : Int) (l1.length : Int)) (l2.length : Int)) : Int).toNat) (l1.take ((mn (mn (l0.length : Int) (l1.length : Int)) (l2.length : Int)) : Int).toNat) a3 a4 bt105.1 ((bt125.1.length : Int) != (mn (mn (l0.length : Int) (l1.length : Int)) (l2.length : Int)))) else (braidworklaw02_VectorSpace.j0 k (l0.take ((mn (mn (l0.length : Int) (l1.length : Int)) (l2.length : Int)) : Int).toNat) (l1.take ((mn (mn (l0.length : Int) (l1.length : Int)) (l2.length : Int)) : Int).toNat) a3 a4 bt105.1 true))) else (braidworklaw02_VectorSpace.j0 k (l0.take ((mn (mn (l0.length : Int) (l1.length : Int)) (l2.length : Int)) : Int).toNat) (l1.take ((mn (mn (l0.length : Int) (l1.length : Int)) (l2.length : Int)) : Int).toNat) a3 a4 bt105.1 true)) else (braidworklaw02_VectorSpace.j0 k (l0.take ((mn (mn (l0.length : Int) (l1.length : Int)) (l2.length : Int)) : Int).toNat) (l1.take ((mn (mn (l0.length : Int) (l1.length : Int)) (l2.length : Int)) : Int).toNat) a3 a4 bt105.1 true)) else (braidworklaw02_VectorSpace.j0 k (l0.take ((mn (mn (l0.length : Int) (l1.length : Int)) (l2.length : Int)) : Int).toNat) (l1.take ((mn (mn (l0.length : Int) (l1.length : Int)) (l2.length : Int)) : Int).toNat) a3 a4 bt105.1 true)))))))) else (none)) else (none)) else (none)) else (none)) = some r := h
  clear h
  obtain ⟨ji6, hji6⟩ : ∃ j_ : Int, (mn (l0.length : Int) (l1.length : Int)) = j_ := ⟨_, rfl⟩
  replace H : (if 0 ≤ (mn (ji6) (l2.length : Int)) then (if (mn (ji6) (l2.length : Int)) ≤ (l0.length : Int) then (if (mn (ji6) (l2.length : Int)) ≤ (l1.length : Int) then (if (mn (ji6) (l2.length : Int)) ≤ (l2.length : Int) then ((vector_Add.f (l0.take ((mn (ji6) (l2.length : Int)) : Int).toNat) (l1.take ((mn (ji6) (l2.length : Int)) : Int).toNat)).bind fun bt105 => ((vector_Add.f (l1.take ((mn (ji6) (l2.length : Int)) : Int).toNat) (l0.take ((mn (ji6) (l2.length : Int)) : Int).toNat)).bind fun bt109 => ((vector_Add.f (l1.take ((mn (ji6) (l2.length : Int)) : Int).toNat) (l2.take ((mn (ji6) (l2.length : Int)) : Int).toNat)).bind fun bt113 => ((vector_Add.f bt105.1 (l2.take ((mn (ji6) (l2.length : Int)) : Int).toNat)).bind fun bt117 => ((vector_Add.f (l0.take ((mn (ji6) (l2.length : Int)) : Int).toNat) bt113.1).bind fun bt121 => ((vector_Add.f (l0.take ((mn (ji6) (l2.length : Int)) : Int).toNat) (l0.take ((mn (ji6) (l2.length : Int)) : Int).toNat)).bind fun bt125 => (if (strOfNums bt105.1).toList = (strOfNums bt109.1).toList then (if (strOfNums bt117.1).toList = (strOfNums bt121.1).toList then (if bt125.2 = 0 then ((vector_IsZero.f bt125.1).bind fun t129 => (if t129 = true then (braidworklaw02_VectorSpace.j0 k (l0.take ((mn (ji6) (l2.length : Int)) : Int).toNat) (l1.take ((mn (ji6) (l2.length : Int)) : Int).toNat) a3 a4 bt105.1 ((bt125.1.length : Int) != (mn (ji6) (l2.length : Int)))) else (braidworklaw02_VectorSpace.j0 k (l0.take ((mn (ji6) (l2.length : Int)) : Int).toNat) (l1.take ((mn (ji6) (l2.length : Int)) : Int).toNat) a3 a4 bt105.1 true))) else (braidworklaw02_VectorSpace.j0 k (l0.take ((mn (ji6) (l2.length : Int)) : Int).toNat) (l1.take ((mn (ji6) (l2.length : Int)) : Int).toNat) a3 a4 bt105.1 true)) else (braidworklaw02_VectorSpace.j0 k (l0.take ((mn (ji6) (l2.length : Int)) : Int).toNat) (l1.take ((mn (ji6) (l2.length : Int)) : Int).toNat) a3 a4 bt105.1 true)) else (braidworklaw02_VectorSpace.j0 k (l0.take ((mn (ji6) (l2.length : Int)) : Int).toNat) (l1.take ((mn (ji6) (l2.length : Int)) : Int).toNat) a3 a4 bt105.1 true)))))))) else (none)) else (none)) else (none)) else (none)) = some r := by first | (rw [hji6] at H; exact H) | (simp only [hji6] at H ⊢; exact H)
  (try (have hji6l : 0 ≤ ji6 := by (rw [← hji6]; unfold mn; (repeat' split) <;> omega)))
  (try (have hji6m : 0 ≤ ji6 := by omega))
  have hji6_ : (if (l1.length : Int) < (l0.length : Int) then (l1.length : Int) else (l0.length : Int)) = ji6 := hji6
  have hji6_n : (if l1.length < l0.length then (l1.length : Int) else (l0.length : Int)) = ji6 := by (have h_ := hji6_; simp only [Int.ofNat_lt] at h_; exact h_)
  obtain ⟨ji7, hji7⟩ : ∃ j_ : Int, (mn (ji6) (l2.length : Int)) = j_ := ⟨_, rfl⟩
  replace H : (if 0 ≤ (ji7) then (if (ji7) ≤ (l0.length : Int) then (if (ji7) ≤ (l1.length : Int) then (if (ji7) ≤ (l2.length : Int) then ((vector_Add.f (l0.take ((ji7) : Int).toNat) (l1.take ((ji7) : Int).toNat)).bind fun bt105 => ((vector_Add.f (l1.take ((ji7) : Int).toNat) (l0.take ((ji7) : Int).toNat)).bind fun bt109 => ((vector_Add.f (l1.take ((ji7) : Int).toNat) (l2.take ((ji7) : Int).toNat)).bind fun bt113 => ((vector_Add.f bt105.1 (l2.take ((ji7) : Int).toNat)).bind fun bt117 => ((vector_Add.f (l0.take ((ji7) : Int).toNat) bt113.1).bind fun bt121 => ((vector_Add.f (l0.take ((ji7) : Int).toNat) (l0.take ((ji7) : Int).toNat)).bind fun bt125 => (if (strOfNums bt105.1).toList = (strOfNums bt109.1).toList then (if (strOfNums bt117.1).toList = (strOfNums bt121.1).toList then (if bt125.2 = 0 then ((vector_IsZero.f bt125.1).bind fun t129 => (if t129 = true then (braidworklaw02_VectorSpace.j0 k (l0.take ((ji7) : Int).toNat) (l1.take ((ji7) : Int).toNat) a3 a4 bt105.1 ((bt125.1.length : Int) != (ji7))) else (braidworklaw02_VectorSpace.j0 k (l0.take ((ji7) : Int).toNat) (l1.take ((ji7) : Int).toNat) a3 a4 bt105.1 true))) else (braidworklaw02_VectorSpace.j0 k (l0.take ((ji7) : Int).toNat) (l1.take ((ji7) : Int).toNat) a3 a4 bt105.1 true)) else (braidworklaw02_VectorSpace.j0 k (l0.take ((ji7) : Int).toNat) (l1.take ((ji7) : Int).toNat) a3 a4 bt105.1 true)) else (braidworklaw02_VectorSpace.j0 k (l0.take ((ji7) : Int).toNat) (l1.take ((ji7) : Int).toNat) a3 a4 bt105.1 true)))))))) else (none)) else (none)) else (none)) else (none)) = some r := by first | (rw [hji7] at H; exact H) | (simp only [hji7] at H ⊢; exact H)
  have hji7_ : (if (l2.length : Int) < (ji6) then (l2.length : Int) else (ji6)) = ji7 := hji7
  by_cases c8 : 0 ≤ (ji7)
  · rw [if_pos c8] at H
    have c8b0 := eq_true c8
    have c8b1 : decide (0 ≤ (ji7)) = true := decide_eq_true c8
    clear c8
    by_cases c9 : (ji7) ≤ (l0.length : Int)
    · rw [if_pos c9] at H
      have c9b0 := eq_true c9
      have c9b1 : decide ((ji7) ≤ (l0.length : Int)) = true := decide_eq_true c9
      clear c9
      have c10b0 := eq_true (of_decide_eq_true (by first | (with_reducible assumption) | assumption) : 0 ≤ (ji7))
      by_cases c11 : (ji7) ≤ (l1.length : Int)
      · rw [if_pos c11] at H
        have c11b0 := eq_true c11
        have c11b1 : decide ((ji7) ≤ (l1.length : Int)) = true := decide_eq_true c11
        clear c11
        have c12b0 := eq_true (of_decide_eq_true (by first | (with_reducible assumption) | assumption) : 0 ≤ (ji7))
        by_cases c13 : (ji7) ≤ (l2.length : Int)
        · rw [if_pos c13] at H
          have c13b0 := eq_true c13
          have c13b1 : decide ((ji7) ≤ (l2.length : Int)) = true := decide_eq_true c13
          clear c13
          replace H := Option.bind_eq_some_iff.mp H
          obtain ⟨⟨t105, t108⟩, A140, H⟩ := H
          replace H : ((vector_Add.f (l1.take ((ji7) : Int).toNat) (l0.take ((ji7) : Int).toNat)).bind fun bt109 => ((vector_Add.f (l1.take ((ji7) : Int).toNat) (l2.take ((ji7) : Int).toNat)).bind fun bt113 => ((vector_Add.f t105 (l2.take ((ji7) : Int).toNat)).bind fun bt117 => ((vector_Add.f (l0.take ((ji7) : Int).toNat) bt113.1).bind fun bt121 => ((vector_Add.f (l0.take ((ji7) : Int).toNat) (l0.take ((ji7) : Int).toNat)).bind fun bt125 => (if (strOfNums t105).toList = (strOfNums bt109.1).toList then (if (strOfNums bt117.1).toList = (strOfNums bt121.1).toList then (if bt125.2 = 0 then ((vector_IsZero.f bt125.1).bind fun t129 => (if t129 = true then (braidworklaw02_VectorSpace.j0 k (l0.take ((ji7) : Int).toNat) (l1.take ((ji7) : Int).toNat) a3 a4 t105 ((bt125.1.length : Int) != (ji7))) else (braidworklaw02_VectorSpace.j0 k (l0.take ((ji7) : Int).toNat) (l1.take ((ji7) : Int).toNat) a3 a4 t105 true))) else (braidworklaw02_VectorSpace.j0 k (l0.take ((ji7) : Int).toNat) (l1.take ((ji7) : Int).toNat) a3 a4 t105 true)) else (braidworklaw02_VectorSpace.j0 k (l0.take ((ji7) : Int).toNat) (l1.take ((ji7) : Int).toNat) a3 a4 t105 true)) else (braidworklaw02_VectorSpace.j0 k (l0.take ((ji7) : Int).toNat) (l1.take ((ji7) : Int).toNat) a3 a4 t105 true))))))) = some r := H
          have A14 := Aside0.mk A140
          clear A140
          replace H := Option.bind_eq_some_iff.mp H
          obtain ⟨⟨t109, t112⟩, A150, H⟩ := H
          replace H : ((vector_Add.f (l1.take ((ji7) : Int).toNat) (l2.take ((ji7) : Int).toNat)).bind fun bt113 => ((vector_Add.f t105 (l2.take ((ji7) : Int).toNat)).bind fun bt117 => ((vector_Add.f (l0.take ((ji7) : Int).toNat) bt113.1).bind fun bt121 => ((vector_Add.f (l0.take ((ji7) : Int).toNat) (l0.take ((ji7) : Int).toNat)).bind fun bt125 => (if (strOfNums t105).toList = (strOfNums t109).toList then (if (strOfNums bt117.1).toList = (strOfNums bt121.1).toList then (if bt125.2 = 0 then ((vector_IsZero.f bt125.1).bind fun t129 => (if t129 = true then (braidworklaw02_VectorSpace.j0 k (l0.take ((ji7) : Int).toNat) (l1.take ((ji7) : Int).toNat) a3 a4 t105 ((bt125.1.length : Int) != (ji7))) else (braidworklaw02_VectorSpace.j0 k (l0.take ((ji7) : Int).toNat) (l1.take ((ji7) : Int).toNat) a3 a4 t105 true))) else (braidworklaw02_VectorSpace.j0 k (l0.take ((ji7) : Int).toNat) (l1.take ((ji7) : Int).toNat) a3 a4 t105 true)) else (braidworklaw02_VectorSpace.j0 k (l0.take ((ji7) : Int).toNat) (l1.take ((ji7) : Int).toNat) a3 a4 t105 true)) else (braidworklaw02_VectorSpace.j0 k (l0.take ((ji7) : Int).toNat) (l1.take ((ji7) : Int).toNat) a3 a4 t105 true)))))) = some r := H
          have A15 := Aside0.mk A150
          clear A150
          replace H := Option.bind_eq_some_iff.mp H
          obtain ⟨⟨t113, t116⟩, A160, H⟩ := H
          replace H : ((vector_Add.f t105 (l2.take ((ji7) : Int).toNat)).bind fun bt117 => ((vector_Add.f (l0.take ((ji7) : Int).toNat) t113).bind fun bt121 => ((vector_Add.f (l0.take ((ji7) : Int).toNat) (l0.take ((ji7) : Int).toNat)).bind fun bt125 => (if (strOfNums t105).toList = (strOfNums t109).toList then (if (strOfNums bt117.1).toList = (strOfNums bt121.1).toList then (if bt125.2 = 0 then ((vector_IsZero.f bt125.1).bind fun t129 => (if t129 = true then (braidworklaw02_VectorSpace.j0 k (l0.take ((ji7) : Int).toNat) (l1.take ((ji7) : Int).toNat) a3 a4 t105 ((bt125.1.length : Int) != (ji7))) else (braidworklaw02_VectorSpace.j0 k (l0.take ((ji7) : Int).toNat) (l1.take ((ji7) : Int).toNat) a3 a4 t105 true))) else (braidworklaw02_VectorSpace.j0 k (l0.take ((ji7) : Int).toNat) (l1.take ((ji7) : Int).toNat) a3 a4 t105 true)) else (braidworklaw02_VectorSpace.j0 k (l0.take ((ji7) : Int).toNat) (l1.take ((ji7) : Int).toNat) a3 a4 t105 true)) else (braidworklaw02_VectorSpace.j0 k (l0.take ((ji7) : Int).toNat) (l1.take ((ji7) : Int).toNat) a3 a4 t105 true))))) = some r := H
          have A16 := Aside0.mk A160
          clear A160
          replace H := Option.bind_eq_some_iff.mp H
          obtain ⟨⟨t117, t120⟩, A170, H⟩ := H
          replace H : ((vector_Add.f (l0.take ((ji7) : Int).toNat) t113).bind fun bt121 => ((vector_Add.f (l0.take ((ji7) : Int).toNat) (l0.take ((ji7) : Int).toNat)).bind fun bt125 => (if (strOfNums t105).toList = (strOfNums t109).toList then (if (strOfNums t117).toList = (strOfNums bt121.1).toList then (if bt125.2 = 0 then ((vector_IsZero.f bt125.1).bind fun t129 => (if t129 = true then (braidworklaw02_VectorSpace.j0 k (l0.take ((ji7) : Int).toNat) (l1.take ((ji7) : Int).toNat) a3 a4 t105 ((bt125.1.length : Int) != (ji7))) else (braidworklaw02_VectorSpace.j0 k (l0.take ((ji7) : Int).toNat) (l1.take ((ji7) : Int).toNat) a3 a4 t105 true))) else (braidworklaw02_VectorSpace.j0 k (l0.take ((ji7) : Int).toNat) (l1.take ((ji7) : Int).toNat) a3 a4 t105 true)) else (braidworklaw02_VectorSpace.j0 k (l0.take ((ji7) : Int).toNat) (l1.take ((ji7) : Int).toNat) a3 a4 t105 true)) else (braidworklaw02_VectorSpace.j0 k (l0.take ((ji7) : Int).toNat) (l1.take ((ji7) : Int).toNat) a3 a4 t105 true)))) = some r := H
          have A17 := Aside0.mk A170
          clear A170
          replace H := Option.bind_eq_some_iff.mp H
          obtain ⟨⟨t121, t124⟩, A180, H⟩ := H
          replace H : ((vector_Add.f (l0.take ((ji7) : Int).toNat) (l0.take ((ji7) : Int).toNat)).bind fun bt125 => (if (strOfNums t105).toList = (strOfNums t109).toList then (if (strOfNums t117).toList = (strOfNums t121).toList then (if bt125.2 = 0 then ((vector_IsZero.f bt125.1).bind fun t129 => (if t129 = true then (braidworklaw02_VectorSpace.j0 k (l0.take ((ji7) : Int).toNat) (l1.take ((ji7) : Int).toNat) a3 a4 t105 ((bt125.1.length : Int) != (ji7))) else (braidworklaw02_VectorSpace.j0 k (l0.take ((ji7) : Int).toNat) (l1.take ((ji7) : Int).toNat) a3 a4 t105 true))) else (braidworklaw02_VectorSpace.j0 k (l0.take ((ji7) : Int).toNat) (l1.take ((ji7) : Int).toNat) a3 a4 t105 true)) else (braidworklaw02_VectorSpace.j0 k (l0.take ((ji7) : Int).toNat) (l1.take ((ji7) : Int).toNat) a3 a4 t105 true)) else (braidworklaw02_VectorSpace.j0 k (l0.take ((ji7) : Int).toNat) (l1.take ((ji7) : Int).toNat) a3 a4 t105 true))) = some r := H
          have A18 := Aside0.mk A180
          clear A180
          replace H := Option.bind_eq_some_iff.mp H
          obtain ⟨⟨t125, t128⟩, A190, H⟩ := H
          replace H : (if (strOfNums t105).toList = (strOfNums t109).toList then (if (strOfNums t117).toList = (strOfNums t121).toList then (if t128 = 0 then ((vector_IsZero.f t125).bind fun t129 => (if t129 = true then (braidworklaw02_VectorSpace.j0 k (l0.take ((ji7) : Int).toNat) (l1.take ((ji7) : Int).toNat) a3 a4 t105 ((t125.length : Int) != (ji7))) else (braidworklaw02_VectorSpace.j0 k (l0.take ((ji7) : Int).toNat) (l1.take ((ji7) : Int).toNat) a3 a4 t105 true))) else (braidworklaw02_VectorSpace.j0 k (l0.take ((ji7) : Int).toNat) (l1.take ((ji7) : Int).toNat) a3 a4 t105 true)) else (braidworklaw02_VectorSpace.j0 k (l0.take ((ji7) : Int).toNat) (l1.take ((ji7) : Int).toNat) a3 a4 t105 true)) else (braidworklaw02_VectorSpace.j0 k (l0.take ((ji7) : Int).toNat) (l1.take ((ji7) : Int).toNat) a3 a4 t105 true)) = some r := H
          have A19 := Aside0.mk A190
          clear A190
          have HC20 := Aside0.mk H
          clear H
          obtain ⟨i021, hi021, _, hsz21, _⟩ := info_parts info5
          obtain ⟨hcut21, hA21, hC21⟩ := print_take_of  (P := Try.prog) (Value.int .u8) 0 23 5 .i64 Try.underlying23 hi021 hsz21 A0 c0 l0 (ji7) (of_decide_eq_true (by first | (with_reducible assumption) | assumption)) (of_decide_eq_true (by first | (with_reducible assumption) | assumption)) HC0.out
          have HR102 := Aside0.mk (Kd.C_of_reads (h1 := fun _ => rfl) (hA21 _ (Kd.reads_of_C HR0.out)))
          have HC102 := Aside0.mk hC21
          clear hA21 hC21 hi021 hsz21
          obtain ⟨yc21, hyc21⟩ : ∃ y_ : List Int, y_ = (l0.take ((ji7) : Int).toNat) := ⟨_, rfl⟩
          have hlc21 : ((ji7) : Int).toNat = yc21.length := by rw [hyc21, List.length_take]; omega
          rw [← hyc21] at HR102 HC102 hcut21
          (try rw [← hyc21] at A14)
          (try rw [← hyc21] at A15)
          (try rw [← hyc21] at A16)
          (try rw [← hyc21] at A17)
          (try rw [← hyc21] at A18)
          (try rw [← hyc21] at A19)
          (try rw [← hyc21] at HC20)
          clear hlc21 hyc21
          obtain ⟨i022, hi022, _, hsz22, _⟩ := info_parts info5
          obtain ⟨hcut22, hA22, hC22⟩ := print_take_of  (P := Try.prog) (Value.int .u8) 0 23 5 .i64 Try.underlying23 hi022 hsz22 A1 c1 l1 (ji7) (of_decide_eq_true (by first | (with_reducible assumption) | assumption)) (of_decide_eq_true (by first | (with_reducible assumption) | assumption)) HC1.out
          have HR103 := Aside0.mk (Kd.C_of_reads (h1 := fun _ => rfl) (hA22 _ (Kd.reads_of_C HR1.out)))
          have HC103 := Aside0.mk hC22
          clear hA22 hC22 hi022 hsz22
          obtain ⟨yc22, hyc22⟩ : ∃ y_ : List Int, y_ = (l1.take ((ji7) : Int).toNat) := ⟨_, rfl⟩
          have hlc22 : ((ji7) : Int).toNat = yc22.length := by rw [hyc22, List.length_take]; omega
          rw [← hyc22] at HR103 HC103 hcut22
          (try rw [← hyc22] at A14)
          (try rw [← hyc22] at A15)
          (try rw [← hyc22] at A16)
          (try rw [← hyc22] at A17)
          (try rw [← hyc22] at A18)
          (try rw [← hyc22] at A19)
          (try rw [← hyc22] at HC20)
          clear hlc22 hyc22
          obtain ⟨i023, hi023, _, hsz23, _⟩ := info_parts info5
          obtain ⟨hcut23, hA23, hC23⟩ := print_take_of  (P := Try.prog) (Value.int .u8) 0 23 5 .i64 Try.underlying23 hi023 hsz23 A2 c2 l2 (ji7) (of_decide_eq_true (by first | (with_reducible assumption) | assumption)) (of_decide_eq_true (by first | (with_reducible assumption) | assumption)) HC2.out
          have HR104 := Aside0.mk (Kd.C_of_reads (h1 := fun _ => rfl) (hA23 _ (Kd.reads_of_C HR2.out)))
          have HC104 := Aside0.mk hC23
          clear hA23 hC23 hi023 hsz23
          obtain ⟨yc23, hyc23⟩ : ∃ y_ : List Int, y_ = (l2.take ((ji7) : Int).toNat) := ⟨_, rfl⟩
          have hlc23 : ((ji7) : Int).toNat = yc23.length := by rw [hyc23, List.length_take]; omega
          rw [← hyc23] at HR104 HC104 hcut23
          (try rw [← hyc23] at A14)
          (try rw [← hyc23] at A15)
          (try rw [← hyc23] at A16)
          (try rw [← hyc23] at A17)
          (try rw [← hyc23] at A18)
          (try rw [← hyc23] at A19)
          (try rw [← hyc23] at HC20)
          clear hlc23 hyc23
          go_enter Try.func5, Try.ntmps5
          go_upto_region 9 with (first | (go_at_call 14; (with_reducible refine (vector_Add.callsV _ _ yc21 _ _ yc22 t105 t108 _ ?side1 ?side2 ?side3 ?side4 A14.out).mono ?_); (case side1 => repeat (first | exact HR102.out | (with_reducible refine Kd.C_alloc ?_ _) | (with_reducible refine Kd.C_drewN ?_ _) | (with_reducible refine Kd.C_drew ?_))); (case side2 => exact HC102.out); (case side3 => repeat (first | exact HR103.out | (with_reducible refine Kd.C_alloc ?_ _) | (with_reducible refine Kd.C_drewN ?_ _) | (with_reducible refine Kd.C_drew ?_))); (case side4 => exact HC103.out); rintro e w24 ⟨v106, rfl, ho0, hb⟩; have n0_ := Aside0.mk (Kd.V_lower (Kd.V_mono (ok' := fun k_ => True) ho0 (fun k_ hk_ => trivial)) (below_size (by repeat (first | (with_reducible first | exact HB.out | apply below_alloc | apply pw_below_drewN | apply below_drew1) | exact HB.out)))); have n1_ := Aside0.mk (below_step (by repeat (first | (with_reducible first | exact HB.out | apply below_alloc | apply pw_below_drewN | apply below_drew1) | exact HB.out)) hb); clear HB; have HO107 := n0_; have HB := n1_; clear n0_ n1_; (try clear hb); (try clear hb2); (try clear hk); (try clear hi); (try clear ho0)) | (go_at_call 14; (with_reducible refine (vector_Add.callsV _ _ yc22 _ _ yc21 t109 t112 _ ?side1 ?side2 ?side3 ?side4 A15.out).mono ?_); (case side1 => repeat (first | exact (Kd.C_below HR103.out HB.out) | (with_reducible refine Kd.C_alloc ?_ _) | (with_reducible refine Kd.C_drewN ?_ _) | (with_reducible refine Kd.C_drew ?_))); (case side2 => exact HC103.out); (case side3 => repeat (first | exact (Kd.C_below HR102.out HB.out) | (with_reducible refine Kd.C_alloc ?_ _) | (with_reducible refine Kd.C_drewN ?_ _) | (with_reducible refine Kd.C_drew ?_))); (case side4 => exact HC102.out); rintro e w25 ⟨v110, rfl, ho0, hb⟩; have n0_ := Aside0.mk (Kd.V_below (by (with_reducible repeat (first | apply Kd.V_alloc | apply Kd.V_drewN | apply Kd.V_drew)); exact HO107.out) hb); have n1_ := Aside0.mk (Kd.V_lower (Kd.V_mono (ok' := fun k_ => True) ho0 (fun k_ hk_ => trivial)) (below_size (by repeat (first | (with_reducible first | exact HB.out | apply below_alloc | apply pw_below_drewN | apply below_drew1) | exact HB.out)))); have n2_ := Aside0.mk (below_step (by repeat (first | (with_reducible first | exact HB.out | apply below_alloc | apply pw_below_drewN | apply below_drew1) | exact HB.out)) hb); clear HO107; clear HB; have HO107 := n0_; have HO111 := n1_; have HB := n2_; clear n0_ n1_ n2_; (try clear hb); (try clear hb2); (try clear hk); (try clear hi); (try clear ho0)) | (go_at_call 14; (with_reducible refine (vector_Add.callsV _ _ yc22 _ _ yc23 t113 t116 _ ?side1 ?side2 ?side3 ?side4 A16.out).mono ?_); (case side1 => repeat (first | exact (Kd.C_below HR103.out HB.out) | (with_reducible refine Kd.C_alloc ?_ _) | (with_reducible refine Kd.C_drewN ?_ _) | (with_reducible refine Kd.C_drew ?_))); (case side2 => exact HC103.out); (case side3 => repeat (first | exact (Kd.C_below HR104.out HB.out) | (with_reducible refine Kd.C_alloc ?_ _) | (with_reducible refine Kd.C_drewN ?_ _) | (with_reducible refine Kd.C_drew ?_))); (case side4 => exact HC104.out); rintro e w26 ⟨v114, rfl, ho0, hb⟩; have n0_ := Aside0.mk (Kd.V_below (by (with_reducible repeat (first | apply Kd.V_alloc | apply Kd.V_drewN | apply Kd.V_drew)); exact HO107.out) hb); have n1_ := Aside0.mk (Kd.V_below (by (with_reducible repeat (first | apply Kd.V_alloc | apply Kd.V_drewN | apply Kd.V_drew)); exact HO111.out) hb); have n2_ := Aside0.mk (Kd.V_lower (Kd.V_mono (ok' := fun k_ => True) ho0 (fun k_ hk_ => trivial)) (below_size (by repeat (first | (with_reducible first | exact HB.out | apply below_alloc | apply pw_below_drewN | apply below_drew1) | exact HB.out)))); have n3_ := Aside0.mk (below_step (by repeat (first | (with_reducible first | exact HB.out | apply below_alloc | apply pw_below_drewN | apply below_drew1) | exact HB.out)) hb); clear HO107; clear HO111; clear HB; have HO107 := n0_; have HO111 := n1_; have HO115 := n2_; have HB := n3_; clear n0_ n1_ n2_ n3_; (try clear hb); (try clear hb2); (try clear hk); (try clear hi); (try clear ho0); obtain ⟨Ao27, co27, eo27⟩ := Kd.V_slice HO107.out; subst eo27) | (go_at_call 14; (with_reducible refine (vector_Add.callsV _ _ t105 _ _ yc23 t117 t120 _ ?side1 ?side2 ?side3 ?side4 A17.out).mono ?_); (case side1 => repeat (first | exact (Kd.V_reads' HO107.out).2.2 | (with_reducible refine Kd.C_alloc ?_ _) | (with_reducible refine Kd.C_drewN ?_ _) | (with_reducible refine Kd.C_drew ?_))); (case side2 => exact (Kd.V_reads' HO107.out).2.1); (case side3 => repeat (first | exact (Kd.C_below HR104.out HB.out) | (with_reducible refine Kd.C_alloc ?_ _) | (with_reducible refine Kd.C_drewN ?_ _) | (with_reducible refine Kd.C_drew ?_))); (case side4 => exact HC104.out); rintro e w28 ⟨v118, rfl, ho0, hb⟩; have n0_ := Aside0.mk (Kd.V_below (by (with_reducible repeat (first | apply Kd.V_alloc | apply Kd.V_drewN | apply Kd.V_drew)); exact HO107.out) hb); have n1_ := Aside0.mk (Kd.V_below (by (with_reducible repeat (first | apply Kd.V_alloc | apply Kd.V_drewN | apply Kd.V_drew)); exact HO111.out) hb); have n2_ := Aside0.mk (Kd.V_below (by (with_reducible repeat (first | apply Kd.V_alloc | apply Kd.V_drewN | apply Kd.V_drew)); exact HO115.out) hb); have n3_ := Aside0.mk (Kd.V_lower (Kd.V_mono (ok' := fun k_ => True) ho0 (fun k_ hk_ => trivial)) (below_size (by repeat (first | (with_reducible first | exact HB.out | apply below_alloc | apply pw_below_drewN | apply below_drew1) | exact HB.out)))); have n4_ := Aside0.mk (below_step (by repeat (first | (with_reducible first | exact HB.out | apply below_alloc | apply pw_below_drewN | apply below_drew1) | exact HB.out)) hb); clear HO107; clear HO111; clear HO115; clear HB; have HO107 := n0_; have HO111 := n1_; have HO115 := n2_; have HO119 := n3_; have HB := n4_; clear n0_ n1_ n2_ n3_ n4_; (try clear hb); (try clear hb2); (try clear hk); (try clear hi); (try clear ho0); obtain ⟨Ao29, co29, eo29⟩ := Kd.V_slice HO115.out; subst eo29) | (go_at_call 14; (with_reducible refine (vector_Add.callsV _ _ yc21 _ _ t113 t121 t124 _ ?side1 ?side2 ?side3 ?side4 A18.out).mono ?_); (case side1 => repeat (first | exact (Kd.C_below HR102.out HB.out) | (with_reducible refine Kd.C_alloc ?_ _) | (with_reducible refine Kd.C_drewN ?_ _) | (with_reducible refine Kd.C_drew ?_))); (case side2 => exact HC102.out); (case side3 => repeat (first | exact (Kd.V_reads' HO115.out).2.2 | (with_reducible refine Kd.C_alloc ?_ _) | (with_reducible refine Kd.C_drewN ?_ _) | (with_reducible refine Kd.C_drew ?_))); (case side4 => exact (Kd.V_reads' HO115.out).2.1); rintro e w30 ⟨v122, rfl, ho0, hb⟩; have n0_ := Aside0.mk (Kd.V_below (by (with_reducible repeat (first | apply Kd.V_alloc | apply Kd.V_drewN | apply Kd.V_drew)); exact HO107.out) hb); have n1_ := Aside0.mk (Kd.V_below (by (with_reducible repeat (first | apply Kd.V_alloc | apply Kd.V_drewN | apply Kd.V_drew)); exact HO111.out) hb); have n2_ := Aside0.mk (Kd.V_below (by (with_reducible repeat (first | apply Kd.V_alloc | apply Kd.V_drewN | apply Kd.V_drew)); exact HO115.out) hb); have n3_ := Aside0.mk (Kd.V_below (by (with_reducible repeat (first | apply Kd.V_alloc | apply Kd.V_drewN | apply Kd.V_drew)); exact HO119.out) hb); have n4_ := Aside0.mk (Kd.V_lower (Kd.V_mono (ok' := fun k_ => True) ho0 (fun k_ hk_ => trivial)) (below_size (by repeat (first | (with_reducible first | exact HB.out | apply below_alloc | apply pw_below_drewN | apply below_drew1) | exact HB.out)))); have n5_ := Aside0.mk (below_step (by repeat (first | (with_reducible first | exact HB.out | apply below_alloc | apply pw_below_drewN | apply below_drew1) | exact HB.out)) hb); clear HO107; clear HO111; clear HO115; clear HO119; clear HB; have HO107 := n0_; have HO111 := n1_; have HO115 := n2_; have HO119 := n3_; have HO123 := n4_; have HB := n5_; clear n0_ n1_ n2_ n3_ n4_ n5_; (try clear hb); (try clear hb2); (try clear hk); (try clear hi); (try clear ho0)) | (go_at_call 14; (with_reducible refine (vector_Add.callsV _ _ yc21 _ _ yc21 t125 t128 _ ?side1 ?side2 ?side3 ?side4 A19.out).mono ?_); (case side1 => repeat (first | exact (Kd.C_below HR102.out HB.out) | (with_reducible refine Kd.C_alloc ?_ _) | (with_reducible refine Kd.C_drewN ?_ _) | (with_reducible refine Kd.C_drew ?_))); (case side2 => exact HC102.out); (case side3 => repeat (first | exact (Kd.C_below HR102.out HB.out) | (with_reducible refine Kd.C_alloc ?_ _) | (with_reducible refine Kd.C_drewN ?_ _) | (with_reducible refine Kd.C_drew ?_))); (case side4 => exact HC102.out); rintro e w31 ⟨v126, rfl, ho0, hb⟩; have n0_ := Aside0.mk (Kd.V_below (by (with_reducible repeat (first | apply Kd.V_alloc | apply Kd.V_drewN | apply Kd.V_drew)); exact HO107.out) hb); have n1_ := Aside0.mk (Kd.V_below (by (with_reducible repeat (first | apply Kd.V_alloc | apply Kd.V_drewN | apply Kd.V_drew)); exact HO111.out) hb); have n2_ := Aside0.mk (Kd.V_below (by (with_reducible repeat (first | apply Kd.V_alloc | apply Kd.V_drewN | apply Kd.V_drew)); exact HO115.out) hb); have n3_ := Aside0.mk (Kd.V_below (by (with_reducible repeat (first | apply Kd.V_alloc | apply Kd.V_drewN | apply Kd.V_drew)); exact HO119.out) hb); have n4_ := Aside0.mk (Kd.V_below (by (with_reducible repeat (first | apply Kd.V_alloc | apply Kd.V_drewN | apply Kd.V_drew)); exact HO123.out) hb); have n5_ := Aside0.mk (Kd.V_lower (Kd.V_mono (ok' := fun k_ => True) ho0 (fun k_ hk_ => trivial)) (below_size (by repeat (first | (with_reducible first | exact HB.out | apply below_alloc | apply pw_below_drewN | apply below_drew1) | exact HB.out)))); have n6_ := Aside0.mk (below_step (by repeat (first | (with_reducible first | exact HB.out | apply below_alloc | apply pw_below_drewN | apply below_drew1) | exact HB.out)) hb); clear HO107; clear HO111; clear HO115; clear HO119; clear HO123; clear HB; have HO107 := n0_; have HO111 := n1_; have HO115 := n2_; have HO119 := n3_; have HO123 := n4_; have HO127 := n5_; have HB := n6_; clear n0_ n1_ n2_ n3_ n4_ n5_ n6_; (try clear hb); (try clear hb2); (try clear hk); (try clear hi); (try clear ho0)))
          repeat (go_quiet (first | (go_at_call 14; (with_reducible refine (vector_Add.callsV _ _ yc21 _ _ yc22 t105 t108 _ ?side1 ?side2 ?side3 ?side4 A14.out).mono ?_); (case side1 => repeat (first | exact HR102.out | (with_reducible refine Kd.C_alloc ?_ _) | (with_reducible refine Kd.C_drewN ?_ _) | (with_reducible refine Kd.C_drew ?_))); (case side2 => exact HC102.out); (case side3 => repeat (first | exact HR103.out | (with_reducible refine Kd.C_alloc ?_ _) | (with_reducible refine Kd.C_drewN ?_ _) | (with_reducible refine Kd.C_drew ?_))); (case side4 => exact HC103.out); rintro e w24 ⟨v106, rfl, ho0, hb⟩; have n0_ := Aside0.mk (Kd.V_lower (Kd.V_mono (ok' := fun k_ => True) ho0 (fun k_ hk_ => trivial)) (below_size (by repeat (first | (with_reducible first | exact HB.out | apply below_alloc | apply pw_below_drewN | apply below_drew1) | exact HB.out)))); have n1_ := Aside0.mk (below_step (by repeat (first | (with_reducible first | exact HB.out | apply below_alloc | apply pw_below_drewN | apply below_drew1) | exact HB.out)) hb); clear HB; have HO107 := n0_; have HB := n1_; clear n0_ n1_; (try clear hb); (try clear hb2); (try clear hk); (try clear hi); (try clear ho0)) | (go_at_call 14; (with_reducible refine (vector_Add.callsV _ _ yc22 _ _ yc21 t109 t112 _ ?side1 ?side2 ?side3 ?side4 A15.out).mono ?_); (case side1 => repeat (first | exact (Kd.C_below HR103.out HB.out) | (with_reducible refine Kd.C_alloc ?_ _) | (with_reducible refine Kd.C_drewN ?_ _) | (with_reducible refine Kd.C_drew ?_))); (case side2 => exact HC103.out); (case side3 => repeat (first | exact (Kd.C_below HR102.out HB.out) | (with_reducible refine Kd.C_alloc ?_ _) | (with_reducible refine Kd.C_drewN ?_ _) | (with_reducible refine Kd.C_drew ?_))); (case side4 => exact HC102.out); rintro e w25 ⟨v110, rfl, ho0, hb⟩; have n0_ := Aside0.mk (Kd.V_below (by (with_reducible repeat (first | apply Kd.V_alloc | apply Kd.V_drewN | apply Kd.V_drew)); exact HO107.out) hb); have n1_ := Aside0.mk (Kd.V_lower (Kd.V_mono (ok' := fun k_ => True) ho0 (fun k_ hk_ => trivial)) (below_size (by repeat (first | (with_reducible first | exact HB.out | apply below_alloc | apply pw_below_drewN | apply below_drew1) | exact HB.out)))); have n2_ := Aside0.mk (below_step (by repeat (first | (with_reducible first | exact HB.out | apply below_alloc | apply pw_below_drewN | apply below_drew1) | exact HB.out)) hb); clear HO107; clear HB; have HO107 := n0_; have HO111 := n1_; have HB := n2_; clear n0_ n1_ n2_; (try clear hb); (try clear hb2); (try clear hk); (try clear hi); (try clear ho0)) | (go_at_call 14; (with_reducible refine (vector_Add.callsV _ _ yc22 _ _ yc23 t113 t116 _ ?side1 ?side2 ?side3 ?side4 A16.out).mono ?_); (case side1 => repeat (first | exact (Kd.C_below HR103.out HB.out) | (with_reducible refine Kd.C_alloc ?_ _) | (with_reducible refine Kd.C_drewN ?_ _) | (with_reducible refine Kd.C_drew ?_))); (case side2 => exact HC103.out); (case side3 => repeat (first | exact (Kd.C_below HR104.out HB.out) | (with_reducible refine Kd.C_alloc ?_ _) | (with_reducible refine Kd.C_drewN ?_ _) | (with_reducible refine Kd.C_drew ?_))); (case side4 => exact HC104.out); rintro e w26 ⟨v114, rfl, ho0, hb⟩; have n0_ := Aside0.mk (Kd.V_below (by (with_reducible repeat (first | apply Kd.V_alloc | apply Kd.V_drewN | apply Kd.V_drew)); exact HO107.out) hb); have n1_ := Aside0.mk (Kd.V_below (by (with_reducible repeat (first | apply Kd.V_alloc | apply Kd.V_drewN | apply Kd.V_drew)); exact HO111.out) hb); have n2_ := Aside0.mk (Kd.V_lower (Kd.V_mono (ok' := fun k_ => True) ho0 (fun k_ hk_ => trivial)) (below_size (by repeat (first | (with_reducible first | exact HB.out | apply below_alloc | apply pw_below_drewN | apply below_drew1) | exact HB.out)))); have n3_ := Aside0.mk (below_step (by repeat (first | (with_reducible first | exact HB.out | apply below_alloc | apply pw_below_drewN | apply below_drew1) | exact HB.out)) hb); clear HO107; clear HO111; clear HB; have HO107 := n0_; have HO111 := n1_; have HO115 := n2_; have HB := n3_; clear n0_ n1_ n2_ n3_; (try clear hb); (try clear hb2); (try clear hk); (try clear hi); (try clear ho0); obtain ⟨Ao27, co27, eo27⟩ := Kd.V_slice HO107.out; subst eo27) | (go_at_call 14; (with_reducible refine (vector_Add.callsV _ _ t105 _ _ yc23 t117 t120 _ ?side1 ?side2 ?side3 ?side4 A17.out).mono ?_); (case side1 => repeat (first | exact (Kd.V_reads' HO107.out).2.2 | (with_reducible refine Kd.C_alloc ?_ _) | (with_reducible refine Kd.C_drewN ?_ _) | (with_reducible refine Kd.C_drew ?_))); (case side2 => exact (Kd.V_reads' HO107.out).2.1); (case side3 => repeat (first | exact (Kd.C_below HR104.out HB.out) | (with_reducible refine Kd.C_alloc ?_ _) | (with_reducible refine Kd.C_drewN ?_ _) | (with_reducible refine Kd.C_drew ?_))); (case side4 => exact HC104.out); rintro e w28 ⟨v118, rfl, ho0, hb⟩; have n0_ := Aside0.mk (Kd.V_below (by (with_reducible repeat (first | apply Kd.V_alloc | apply Kd.V_drewN | apply Kd.V_drew)); exact HO107.out) hb); have n1_ := Aside0.mk (Kd.V_below (by (with_reducible repeat (first | apply Kd.V_alloc | apply Kd.V_drewN | apply Kd.V_drew)); exact HO111.out) hb); have n2_ := Aside0.mk (Kd.V_below (by (with_reducible repeat (first | apply Kd.V_alloc | apply Kd.V_drewN | apply Kd.V_drew)); exact HO115.out) hb); have n3_ := Aside0.mk (Kd.V_lower (Kd.V_mono (ok' := fun k_ => True) ho0 (fun k_ hk_ => trivial)) (below_size (by repeat (first | (with_reducible first | exact HB.out | apply below_alloc | apply pw_below_drewN | apply below_drew1) | exact HB.out)))); have n4_ := Aside0.mk (below_step (by repeat (first | (with_reducible first | exact HB.out | apply below_alloc | apply pw_below_drewN | apply below_drew1) | exact HB.out)) hb); clear HO107; clear HO111; clear HO115; clear HB; have HO107 := n0_; have HO111 := n1_; have HO115 := n2_; have HO119 := n3_; have HB := n4_; clear n0_ n1_ n2_ n3_ n4_; (try clear hb); (try clear hb2); (try clear hk); (try clear hi); (try clear ho0); obtain ⟨Ao29, co29, eo29⟩ := Kd.V_slice HO115.out; subst eo29) | (go_at_call 14; (with_reducible refine (vector_Add.callsV _ _ yc21 _ _ t113 t121 t124 _ ?side1 ?side2 ?side3 ?side4 A18.out).mono ?_); (case side1 => repeat (first | exact (Kd.C_below HR102.out HB.out) | (with_reducible refine Kd.C_alloc ?_ _) | (with_reducible refine Kd.C_drewN ?_ _) | (with_reducible refine Kd.C_drew ?_))); (case side2 => exact HC102.out); (case side3 => repeat (first | exact (Kd.V_reads' HO115.out).2.2 | (with_reducible refine Kd.C_alloc ?_ _) | (with_reducible refine Kd.C_drewN ?_ _) | (with_reducible refine Kd.C_drew ?_))); (case side4 => exact (Kd.V_reads' HO115.out).2.1); rintro e w30 ⟨v122, rfl, ho0, hb⟩; have n0_ := Aside0.mk (Kd.V_below (by (with_reducible repeat (first | apply Kd.V_alloc | apply Kd.V_drewN | apply Kd.V_drew)); exact HO107.out) hb); have n1_ := Aside0.mk (Kd.V_below (by (with_reducible repeat (first | apply Kd.V_alloc | apply Kd.V_drewN | apply Kd.V_drew)); exact HO111.out) hb); have n2_ := Aside0.mk (Kd.V_below (by (with_reducible repeat (first | apply Kd.V_alloc | apply Kd.V_drewN | apply Kd.V_drew)); exact HO115.out) hb); have n3_ := Aside0.mk (Kd.V_below (by (with_reducible repeat (first | apply Kd.V_alloc | apply Kd.V_drewN | apply Kd.V_drew)); exact HO119.out) hb); have n4_ := Aside0.mk (Kd.V_lower (Kd.V_mono (ok' := fun k_ => True) ho0 (fun k_ hk_ => trivial)) (below_size (by repeat (first | (with_reducible first | exact HB.out | apply below_alloc | apply pw_below_drewN | apply below_drew1) | exact HB.out)))); have n5_ := Aside0.mk (below_step (by repeat (first | (with_reducible first | exact HB.out | apply below_alloc | apply pw_below_drewN | apply below_drew1) | exact HB.out)) hb); clear HO107; clear HO111; clear HO115; clear HO119; clear HB; have HO107 := n0_; have HO111 := n1_; have HO115 := n2_; have HO119 := n3_; have HO123 := n4_; have HB := n5_; clear n0_ n1_ n2_ n3_ n4_ n5_; (try clear hb); (try clear hb2); (try clear hk); (try clear hi); (try clear ho0)) | (go_at_call 14; (with_reducible refine (vector_Add.callsV _ _ yc21 _ _ yc21 t125 t128 _ ?side1 ?side2 ?side3 ?side4 A19.out).mono ?_); (case side1 => repeat (first | exact (Kd.C_below HR102.out HB.out) | (with_reducible refine Kd.C_alloc ?_ _) | (with_reducible refine Kd.C_drewN ?_ _) | (with_reducible refine Kd.C_drew ?_))); (case side2 => exact HC102.out); (case side3 => repeat (first | exact (Kd.C_below HR102.out HB.out) | (with_reducible refine Kd.C_alloc ?_ _) | (with_reducible refine Kd.C_drewN ?_ _) | (with_reducible refine Kd.C_drew ?_))); (case side4 => exact HC102.out); rintro e w31 ⟨v126, rfl, ho0, hb⟩; have n0_ := Aside0.mk (Kd.V_below (by (with_reducible repeat (first | apply Kd.V_alloc | apply Kd.V_drewN | apply Kd.V_drew)); exact HO107.out) hb); have n1_ := Aside0.mk (Kd.V_below (by (with_reducible repeat (first | apply Kd.V_alloc | apply Kd.V_drewN | apply Kd.V_drew)); exact HO111.out) hb); have n2_ := Aside0.mk (Kd.V_below (by (with_reducible repeat (first | apply Kd.V_alloc | apply Kd.V_drewN | apply Kd.V_drew)); exact HO115.out) hb); have n3_ := Aside0.mk (Kd.V_below (by (with_reducible repeat (first | apply Kd.V_alloc | apply Kd.V_drewN | apply Kd.V_drew)); exact HO119.out) hb); have n4_ := Aside0.mk (Kd.V_below (by (with_reducible repeat (first | apply Kd.V_alloc | apply Kd.V_drewN | apply Kd.V_drew)); exact HO123.out) hb); have n5_ := Aside0.mk (Kd.V_lower (Kd.V_mono (ok' := fun k_ => True) ho0 (fun k_ hk_ => trivial)) (below_size (by repeat (first | (with_reducible first | exact HB.out | apply below_alloc | apply pw_below_drewN | apply below_drew1) | exact HB.out)))); have n6_ := Aside0.mk (below_step (by repeat (first | (with_reducible first | exact HB.out | apply below_alloc | apply pw_below_drewN | apply below_drew1) | exact HB.out)) hb); clear HO107; clear HO111; clear HO115; clear HO119; clear HO123; clear HB; have HO107 := n0_; have HO111 := n1_; have HO115 := n2_; have HO119 := n3_; have HO123 := n4_; have HO127 := n5_; have HB := n6_; clear n0_ n1_ n2_ n3_ n4_ n5_ n6_; (try clear hb); (try clear hb2); (try clear hk); (try clear hi); (try clear ho0))); go_upto_region 9 with (first | (go_at_call 14; (with_reducible refine (vector_Add.callsV _ _ yc21 _ _ yc22 t105 t108 _ ?side1 ?side2 ?side3 ?side4 A14.out).mono ?_); (case side1 => repeat (first | exact HR102.out | (with_reducible refine Kd.C_alloc ?_ _) | (with_reducible refine Kd.C_drewN ?_ _) | (with_reducible refine Kd.C_drew ?_))); (case side2 => exact HC102.out); (case side3 => repeat (first | exact HR103.out | (with_reducible refine Kd.C_alloc ?_ _) | (with_reducible refine Kd.C_drewN ?_ _) | (with_reducible refine Kd.C_drew ?_))); (case side4 => exact HC103.out); rintro e w24 ⟨v106, rfl, ho0, hb⟩; have n0_ := Aside0.mk (Kd.V_lower (Kd.V_mono (ok' := fun k_ => True) ho0 (fun k_ hk_ => trivial)) (below_size (by repeat (first | (with_reducible first | exact HB.out | apply below_alloc | apply pw_below_drewN | apply below_drew1) | exact HB.out)))); have n1_ := Aside0.mk (below_step (by repeat (first | (with_reducible first | exact HB.out | apply below_alloc | apply pw_below_drewN | apply below_drew1) | exact HB.out)) hb); clear HB; have HO107 := n0_; have HB := n1_; clear n0_ n1_; (try clear hb); (try clear hb2); (try clear hk); (try clear hi); (try clear ho0)) | (go_at_call 14; (with_reducible refine (vector_Add.callsV _ _ yc22 _ _ yc21 t109 t112 _ ?side1 ?side2 ?side3 ?side4 A15.out).mono ?_); (case side1 => repeat (first | exact (Kd.C_below HR103.out HB.out) | (with_reducible refine Kd.C_alloc ?_ _) | (with_reducible refine Kd.C_drewN ?_ _) | (with_reducible refine Kd.C_drew ?_))); (case side2 => exact HC103.out); (case side3 => repeat (first | exact (Kd.C_below HR102.out HB.out) | (with_reducible refine Kd.C_alloc ?_ _) | (with_reducible refine Kd.C_drewN ?_ _) | (with_reducible refine Kd.C_drew ?_))); (case side4 => exact HC102.out); rintro e w25 ⟨v110, rfl, ho0, hb⟩; have n0_ := Aside0.mk (Kd.V_below (by (with_reducible repeat (first | apply Kd.V_alloc | apply Kd.V_drewN | apply Kd.V_drew)); exact HO107.out) hb); have n1_ := Aside0.mk (Kd.V_lower (Kd.V_mono (ok' := fun k_ => True) ho0 (fun k_ hk_ => trivial)) (below_size (by repeat (first | (with_reducible first | exact HB.out | apply below_alloc | apply pw_below_drewN | apply below_drew1) | exact HB.out)))); have n2_ := Aside0.mk (below_step (by repeat (first | (with_reducible first | exact HB.out | apply below_alloc | apply pw_below_drewN | apply below_drew1) | exact HB.out)) hb); clear HO107; clear HB; have HO107 := n0_; have HO111 := n1_; have HB := n2_; clear n0_ n1_ n2_; (try clear hb); (try clear hb2); (try clear hk); (try clear hi); (try clear ho0)) | (go_at_call 14; (with_reducible refine (vector_Add.callsV _ _ yc22 _ _ yc23 t113 t116 _ ?side1 ?side2 ?side3 ?side4 A16.out).mono ?_); (case side1 => repeat (first | exact (Kd.C_below HR103.out HB.out) | (with_reducible refine Kd.C_alloc ?_ _) | (with_reducible refine Kd.C_drewN ?_ _) | (with_reducible refine Kd.C_drew ?_))); (case side2 => exact HC103.out); (case side3 => repeat (first | exact (Kd.C_below HR104.out HB.out) | (with_reducible refine Kd.C_alloc ?_ _) | (with_reducible refine Kd.C_drewN ?_ _) | (with_reducible refine Kd.C_drew ?_))); (case side4 => exact HC104.out); rintro e w26 ⟨v114, rfl, ho0, hb⟩; have n0_ := Aside0.mk (Kd.V_below (by (with_reducible repeat (first | apply Kd.V_alloc | apply Kd.V_drewN | apply Kd.V_drew)); exact HO107.out) hb); have n1_ := Aside0.mk (Kd.V_below (by (with_reducible repeat (first | apply Kd.V_alloc | apply Kd.V_drewN | apply Kd.V_drew)); exact HO111.out) hb); have n2_ := Aside0.mk (Kd.V_lower (Kd.V_mono (ok' := fun k_ => True) ho0 (fun k_ hk_ => trivial)) (below_size (by repeat (first | (with_reducible first | exact HB.out | apply below_alloc | apply pw_below_drewN | apply below_drew1) | exact HB.out)))); have n3_ := Aside0.mk (below_step (by repeat (first | (with_reducible first | exact HB.out | apply below_alloc | apply pw_below_drewN | apply below_drew1) | exact HB.out)) hb); clear HO107; clear HO111; clear HB; have HO107 := n0_; have HO111 := n1_; have HO115 := n2_; have HB := n3_; clear n0_ n1_ n2_ n3_; (try clear hb); (try clear hb2); (try clear hk); (try clear hi); (try clear ho0); obtain ⟨Ao27, co27, eo27⟩ := Kd.V_slice HO107.out; subst eo27) | (go_at_call 14; (with_reducible refine (vector_Add.callsV _ _ t105 _ _ yc23 t117 t120 _ ?side1 ?side2 ?side3 ?side4 A17.out).mono ?_); (case side1 => repeat (first | exact (Kd.V_reads' HO107.out).2.2 | (with_reducible refine Kd.C_alloc ?_ _) | (with_reducible refine Kd.C_drewN ?_ _) | (with_reducible refine Kd.C_drew ?_))); (case side2 => exact (Kd.V_reads' HO107.out).2.1); (case side3 => repeat (first | exact (Kd.C_below HR104.out HB.out) | (with_reducible refine Kd.C_alloc ?_ _) | (with_reducible refine Kd.C_drewN ?_ _) | (with_reducible refine Kd.C_drew ?_))); (case side4 => exact HC104.out); rintro e w28 ⟨v118, rfl, ho0, hb⟩; have n0_ := Aside0.mk (Kd.V_below (by (with_reducible repeat (first | apply Kd.V_alloc | apply Kd.V_drewN | apply Kd.V_drew)); exact HO107.out) hb); have n1_ := Aside0.mk (Kd.V_below (by (with_reducible repeat (first | apply Kd.V_alloc | apply Kd.V_drewN | apply Kd.V_drew)); exact HO111.out) hb); have n2_ := Aside0.mk (Kd.V_below (by (with_reducible repeat (first | apply Kd.V_alloc | apply Kd.V_drewN | apply Kd.V_drew)); exact HO115.out) hb); have n3_ := Aside0.mk (Kd.V_lower (Kd.V_mono (ok' := fun k_ => True) ho0 (fun k_ hk_ => trivial)) (below_size (by repeat (first | (with_reducible first | exact HB.out | apply below_alloc | apply pw_below_drewN | apply below_drew1) | exact HB.out)))); have n4_ := Aside0.mk (below_step (by repeat (first | (with_reducible first | exact HB.out | apply below_alloc | apply pw_below_drewN | apply below_drew1) | exact HB.out)) hb); clear HO107; clear HO111; clear HO115; clear HB; have HO107 := n0_; have HO111 := n1_; have HO115 := n2_; have HO119 := n3_; have HB := n4_; clear n0_ n1_ n2_ n3_ n4_; (try clear hb); (try clear hb2); (try clear hk); (try clear hi); (try clear ho0); obtain ⟨Ao29, co29, eo29⟩ := Kd.V_slice HO115.out; subst eo29) | (go_at_call 14; (with_reducible refine (vector_Add.callsV _ _ yc21 _ _ t113 t121 t124 _ ?side1 ?side2 ?side3 ?side4 A18.out).mono ?_); (case side1 => repeat (first | exact (Kd.C_below HR102.out HB.out) | (with_reducible refine Kd.C_alloc ?_ _) | (with_reducible refine Kd.C_drewN ?_ _) | (with_reducible refine Kd.C_drew ?_))); (case side2 => exact HC102.out); (case side3 => repeat (first | exact (Kd.V_reads' HO115.out).2.2 | (with_reducible refine Kd.C_alloc ?_ _) | (with_reducible refine Kd.C_drewN ?_ _) | (with_reducible refine Kd.C_drew ?_))); (case side4 => exact (Kd.V_reads' HO115.out).2.1); rintro e w30 ⟨v122, rfl, ho0, hb⟩; have n0_ := Aside0.mk (Kd.V_below (by (with_reducible repeat (first | apply Kd.V_alloc | apply Kd.V_drewN | apply Kd.V_drew)); exact HO107.out) hb); have n1_ := Aside0.mk (Kd.V_below (by (with_reducible repeat (first | apply Kd.V_alloc | apply Kd.V_drewN | apply Kd.V_drew)); exact HO111.out) hb); have n2_ := Aside0.mk (Kd.V_below (by (with_reducible repeat (first | apply Kd.V_alloc | apply Kd.V_drewN | apply Kd.V_drew)); exact HO115.out) hb); have n3_ := Aside0.mk (Kd.V_below (by (with_reducible repeat (first | apply Kd.V_alloc | apply Kd.V_drewN | apply Kd.V_drew)); exact HO119.out) hb); have n4_ := Aside0.mk (Kd.V_lower (Kd.V_mono (ok' := fun k_ => True) ho0 (fun k_ hk_ => trivial)) (below_size (by repeat (first | (with_reducible first | exact HB.out | apply below_alloc | apply pw_below_drewN | apply below_drew1) | exact HB.out)))); have n5_ := Aside0.mk (below_step (by repeat (first | (with_reducible first | exact HB.out | apply below_alloc | apply pw_below_drewN | apply below_drew1) | exact HB.out)) hb); clear HO107; clear HO111; clear HO115; clear HO119; clear HB; have HO107 := n0_; have HO111 := n1_; have HO115 := n2_; have HO119 := n3_; have HO123 := n4_; have HB := n5_; clear n0_ n1_ n2_ n3_ n4_ n5_; (try clear hb); (try clear hb2); (try clear hk); (try clear hi); (try clear ho0)) | (go_at_call 14; (with_reducible refine (vector_Add.callsV _ _ yc21 _ _ yc21 t125 t128 _ ?side1 ?side2 ?side3 ?side4 A19.out).mono ?_); (case side1 => repeat (first | exact (Kd.C_below HR102.out HB.out) | (with_reducible refine Kd.C_alloc ?_ _) | (with_reducible refine Kd.C_drewN ?_ _) | (with_reducible refine Kd.C_drew ?_))); (case side2 => exact HC102.out); (case side3 => repeat (first | exact (Kd.C_below HR102.out HB.out) | (with_reducible refine Kd.C_alloc ?_ _) | (with_reducible refine Kd.C_drewN ?_ _) | (with_reducible refine Kd.C_drew ?_))); (case side4 => exact HC102.out); rintro e w31 ⟨v126, rfl, ho0, hb⟩; have n0_ := Aside0.mk (Kd.V_below (by (with_reducible repeat (first | apply Kd.V_alloc | apply Kd.V_drewN | apply Kd.V_drew)); exact HO107.out) hb); have n1_ := Aside0.mk (Kd.V_below (by (with_reducible repeat (first | apply Kd.V_alloc | apply Kd.V_drewN | apply Kd.V_drew)); exact HO111.out) hb); have n2_ := Aside0.mk (Kd.V_below (by (with_reducible repeat (first | apply Kd.V_alloc | apply Kd.V_drewN | apply Kd.V_drew)); exact HO115.out) hb); have n3_ := Aside0.mk (Kd.V_below (by (with_reducible repeat (first | apply Kd.V_alloc | apply Kd.V_drewN | apply Kd.V_drew)); exact HO119.out) hb); have n4_ := Aside0.mk (Kd.V_below (by (with_reducible repeat (first | apply Kd.V_alloc | apply Kd.V_drewN | apply Kd.V_drew)); exact HO123.out) hb); have n5_ := Aside0.mk (Kd.V_lower (Kd.V_mono (ok' := fun k_ => True) ho0 (fun k_ hk_ => trivial)) (below_size (by repeat (first | (with_reducible first | exact HB.out | apply below_alloc | apply pw_below_drewN | apply below_drew1) | exact HB.out)))); have n6_ := Aside0.mk (below_step (by repeat (first | (with_reducible first | exact HB.out | apply below_alloc | apply pw_below_drewN | apply below_drew1) | exact HB.out)) hb); clear HO107; clear HO111; clear HO115; clear HO119; clear HO123; clear HB; have HO107 := n0_; have HO111 := n1_; have HO115 := n2_; have HO119 := n3_; have HO123 := n4_; have HO127 := n5_; have HB := n6_; clear n0_ n1_ n2_ n3_ n4_ n5_ n6_; (try clear hb); (try clear hb2); (try clear hk); (try clear hi); (try clear ho0))))
          (try simp only [Act.put, List.setIfInBounds_toArray, List.set_cons_zero, List.set_cons_succ])
          go_cut [113] (fun v113 wc => ∃ (kq : Nat) (x113_19 : Bool), v113 = .bool x113_19 ∧ Aside0 (braidworklaw02_VectorSpace.j0 kq yc21 yc22 a3 a4 t105 x113_19 = some r) ∧ Aside0 (kq ≤ k) ∧ Aside0 (Kd.V (Kd.int .u8) 5 wc w.heap.size (fun _ => True) (.slice Ao27 t105.length co27) t105) ∧ Aside0 (Below w.heap.size w wc))
          case first =>
            have H := HC20.out
            clear HC20
            by_cases c32 : (strOfNums t105).toList = (strOfNums t109).toList
            · rw [if_pos c32] at H
              have c32b0 : ((strOfNums t105).toList == (strOfNums t109).toList) = true := beq_iff_eq.mpr c32
              have c32b1 : ((strOfNums t105).toList != (strOfNums t109).toList) = false := bne_eq_false_iff_eq.mpr c32
              clear c32
              (first | rw [c32b0] | (simp only [i64_w, i32_w]; rw [c32b0]) | skip)
              by_cases c33 : (strOfNums t117).toList = (strOfNums t121).toList
              · rw [if_pos c33] at H
                have c33b0 : ((strOfNums t117).toList == (strOfNums t121).toList) = true := beq_iff_eq.mpr c33
                have c33b1 : ((strOfNums t117).toList != (strOfNums t121).toList) = false := bne_eq_false_iff_eq.mpr c33
                clear c33
                by_cases c34 : t128 = 0
                · rw [if_pos c34] at H
                  have c34b0 : (t128 == 0) = true := beq_iff_eq.mpr c34
                  have c34b1 : (t128 != 0) = false := bne_eq_false_iff_eq.mpr c34
                  clear c34
                  replace H := Option.bind_eq_some_iff.mp H
                  obtain ⟨t129, A350, H⟩ := H
                  replace H : (if t129 = true then (braidworklaw02_VectorSpace.j0 k yc21 yc22 a3 a4 t105 ((t125.length : Int) != (ji7))) else (braidworklaw02_VectorSpace.j0 k yc21 yc22 a3 a4 t105 true)) = some r := H
                  have A35 := Aside0.mk A350
                  clear A350
                  by_cases c36 : t129 = true
                  · subst c36
                    have H1 : (braidworklaw02_VectorSpace.j0 k yc21 yc22 a3 a4 t105 ((t125.length : Int) != (ji7))) = some r := by rw [if_pos rfl] at H; exact H
                    clear H
                    have H := H1
                    clear H1
                    have H' := Aside0.mk H
                    clear H
                    have hcv37 := V_string (P := Try.prog) Try.underlying23 Try.underlying5 Try.underlying9 HO107.out
                    have hcv38 := V_string (P := Try.prog) Try.underlying23 Try.underlying5 Try.underlying9 HO111.out
                    have hcv39 := V_string (P := Try.prog) Try.underlying23 Try.underlying5 Try.underlying9 HO119.out
                    have hcv40 := V_string (P := Try.prog) Try.underlying23 Try.underlying5 Try.underlying9 HO123.out
                    obtain ⟨Ao41, co41, eo41⟩ := Kd.V_slice HO127.out
                    subst eo41
                    go_wp2_with (first | (go_at_call 23; (with_reducible refine (vector_IsZero.calls _ _ t125 true _ ?side1 ?side2 A35.out).mono ?_); (case side1 => repeat (first | exact (Kd.V_reads' HO127.out).2.2 | (with_reducible refine Kd.C_alloc ?_ _) | (with_reducible refine Kd.C_drewN ?_ _) | (with_reducible refine Kd.C_drew ?_))); (case side2 => exact (Kd.V_reads' HO127.out).2.1); rintro e w' ⟨rfl, ⟨nd, rfl⟩⟩; (try first | exact ⟨rfl, _, World.drewN_drewN _ _ _⟩ | exact ⟨rfl, _, Eq.trans (World.drewN_drewN _ _ _) (congrArg (World.drewN _) (Nat.add_assoc _ _ _))⟩)))
                    repeat (go_quiet (first | (go_at_call 23; (with_reducible refine (vector_IsZero.calls _ _ t125 true _ ?side1 ?side2 A35.out).mono ?_); (case side1 => repeat (first | exact (Kd.V_reads' HO127.out).2.2 | (with_reducible refine Kd.C_alloc ?_ _) | (with_reducible refine Kd.C_drewN ?_ _) | (with_reducible refine Kd.C_drew ?_))); (case side2 => exact (Kd.V_reads' HO127.out).2.1); rintro e w' ⟨rfl, ⟨nd, rfl⟩⟩; (try first | exact ⟨rfl, _, World.drewN_drewN _ _ _⟩ | exact ⟨rfl, _, Eq.trans (World.drewN_drewN _ _ _) (congrArg (World.drewN _) (Nat.add_assoc _ _ _))⟩))); try go_wp2_with (first | (go_at_call 23; (with_reducible refine (vector_IsZero.calls _ _ t125 true _ ?side1 ?side2 A35.out).mono ?_); (case side1 => repeat (first | exact (Kd.V_reads' HO127.out).2.2 | (with_reducible refine Kd.C_alloc ?_ _) | (with_reducible refine Kd.C_drewN ?_ _) | (with_reducible refine Kd.C_drew ?_))); (case side2 => exact (Kd.V_reads' HO127.out).2.1); rintro e w' ⟨rfl, ⟨nd, rfl⟩⟩; (try first | exact ⟨rfl, _, World.drewN_drewN _ _ _⟩ | exact ⟨rfl, _, Eq.trans (World.drewN_drewN _ _ _) (congrArg (World.drewN _) (Nat.add_assoc _ _ _))⟩))))
                    go_meet
                    case rel => exact ⟨_, (((t125.length : Int) != (ji7))), (by first | rfl | (simp; done) | (simp only [← hji7] <;> (first | rfl | simp)) | (simp [*]; done)), H', ⟨by first | omega | exact Nat.le_refl _⟩, ⟨by (with_reducible repeat (first | apply Kd.V_alloc | apply Kd.V_drewN | apply Kd.V_drew)); exact HO107.out⟩, ⟨by repeat (first | (with_reducible first | exact HB.out | apply below_alloc | apply pw_below_drewN | apply below_drew1) | exact HB.out)⟩⟩
                  · replace c36 := Bool.eq_false_iff.mpr c36
                    subst c36
                    have H1 : (braidworklaw02_VectorSpace.j0 k yc21 yc22 a3 a4 t105 true) = some r := by rw [if_neg (show ¬ (false = true) by decide)] at H; exact H
                    clear H
                    have H := H1
                    clear H1
                    have H' := Aside0.mk H
                    clear H
                    have hcv42 := V_string (P := Try.prog) Try.underlying23 Try.underlying5 Try.underlying9 HO107.out
                    have hcv43 := V_string (P := Try.prog) Try.underlying23 Try.underlying5 Try.underlying9 HO111.out
                    have hcv44 := V_string (P := Try.prog) Try.underlying23 Try.underlying5 Try.underlying9 HO119.out
                    have hcv45 := V_string (P := Try.prog) Try.underlying23 Try.underlying5 Try.underlying9 HO123.out
                    obtain ⟨Ao46, co46, eo46⟩ := Kd.V_slice HO127.out
                    subst eo46
                    go_wp2_with (first | (go_at_call 23; (with_reducible refine (vector_IsZero.calls _ _ t125 false _ ?side1 ?side2 A35.out).mono ?_); (case side1 => repeat (first | exact (Kd.V_reads' HO127.out).2.2 | (with_reducible refine Kd.C_alloc ?_ _) | (with_reducible refine Kd.C_drewN ?_ _) | (with_reducible refine Kd.C_drew ?_))); (case side2 => exact (Kd.V_reads' HO127.out).2.1); rintro e w' ⟨rfl, ⟨nd, rfl⟩⟩; (try first | exact ⟨rfl, _, World.drewN_drewN _ _ _⟩ | exact ⟨rfl, _, Eq.trans (World.drewN_drewN _ _ _) (congrArg (World.drewN _) (Nat.add_assoc _ _ _))⟩)))
                    repeat (go_quiet (first | (go_at_call 23; (with_reducible refine (vector_IsZero.calls _ _ t125 false _ ?side1 ?side2 A35.out).mono ?_); (case side1 => repeat (first | exact (Kd.V_reads' HO127.out).2.2 | (with_reducible refine Kd.C_alloc ?_ _) | (with_reducible refine Kd.C_drewN ?_ _) | (with_reducible refine Kd.C_drew ?_))); (case side2 => exact (Kd.V_reads' HO127.out).2.1); rintro e w' ⟨rfl, ⟨nd, rfl⟩⟩; (try first | exact ⟨rfl, _, World.drewN_drewN _ _ _⟩ | exact ⟨rfl, _, Eq.trans (World.drewN_drewN _ _ _) (congrArg (World.drewN _) (Nat.add_assoc _ _ _))⟩))); try go_wp2_with (first | (go_at_call 23; (with_reducible refine (vector_IsZero.calls _ _ t125 false _ ?side1 ?side2 A35.out).mono ?_); (case side1 => repeat (first | exact (Kd.V_reads' HO127.out).2.2 | (with_reducible refine Kd.C_alloc ?_ _) | (with_reducible refine Kd.C_drewN ?_ _) | (with_reducible refine Kd.C_drew ?_))); (case side2 => exact (Kd.V_reads' HO127.out).2.1); rintro e w' ⟨rfl, ⟨nd, rfl⟩⟩; (try first | exact ⟨rfl, _, World.drewN_drewN _ _ _⟩ | exact ⟨rfl, _, Eq.trans (World.drewN_drewN _ _ _) (congrArg (World.drewN _) (Nat.add_assoc _ _ _))⟩))))
                    go_meet
                    case rel => exact ⟨_, (true), (by first | rfl | (simp; done) | (simp [*]; done)), H', ⟨by first | omega | exact Nat.le_refl _⟩, ⟨by (with_reducible repeat (first | apply Kd.V_alloc | apply Kd.V_drewN | apply Kd.V_drew)); exact HO107.out⟩, ⟨by repeat (first | (with_reducible first | exact HB.out | apply below_alloc | apply pw_below_drewN | apply below_drew1) | exact HB.out)⟩⟩
                · rw [if_neg c34] at H
                  have c34b0 : (t128 == 0) = false := beq_eq_false_iff_ne.mpr c34
                  have c34b1 : (t128 != 0) = true := bne_iff_ne.mpr c34
                  have H' := Aside0.mk H
                  clear H
                  have hcv47 := V_string (P := Try.prog) Try.underlying23 Try.underlying5 Try.underlying9 HO107.out
                  have hcv48 := V_string (P := Try.prog) Try.underlying23 Try.underlying5 Try.underlying9 HO111.out
                  have hcv49 := V_string (P := Try.prog) Try.underlying23 Try.underlying5 Try.underlying9 HO119.out
                  have hcv50 := V_string (P := Try.prog) Try.underlying23 Try.underlying5 Try.underlying9 HO123.out
                  go_wp2
                  repeat (go_quiet (fail); try go_wp2)
                  go_meet
                  case rel => exact ⟨_, (true), (by first | rfl | (simp; done) | (simp [*]; done)), H', ⟨by first | omega | exact Nat.le_refl _⟩, ⟨by (with_reducible repeat (first | apply Kd.V_alloc | apply Kd.V_drewN | apply Kd.V_drew)); exact HO107.out⟩, ⟨by repeat (first | (with_reducible first | exact HB.out | apply below_alloc | apply pw_below_drewN | apply below_drew1) | exact HB.out)⟩⟩
              · rw [if_neg c33] at H
                have c33b0 : ((strOfNums t117).toList == (strOfNums t121).toList) = false := beq_eq_false_iff_ne.mpr c33
                have c33b1 : ((strOfNums t117).toList != (strOfNums t121).toList) = true := bne_iff_ne.mpr c33
                have H' := Aside0.mk H
                clear H
                have hcv51 := V_string (P := Try.prog) Try.underlying23 Try.underlying5 Try.underlying9 HO107.out
                have hcv52 := V_string (P := Try.prog) Try.underlying23 Try.underlying5 Try.underlying9 HO111.out
                have hcv53 := V_string (P := Try.prog) Try.underlying23 Try.underlying5 Try.underlying9 HO119.out
                have hcv54 := V_string (P := Try.prog) Try.underlying23 Try.underlying5 Try.underlying9 HO123.out
                go_wp2
                repeat (go_quiet (fail); try go_wp2)
                go_meet
                case rel => exact ⟨_, (true), (by first | rfl | (simp; done) | (simp [*]; done)), H', ⟨by first | omega | exact Nat.le_refl _⟩, ⟨by (with_reducible repeat (first | apply Kd.V_alloc | apply Kd.V_drewN | apply Kd.V_drew)); exact HO107.out⟩, ⟨by repeat (first | (with_reducible first | exact HB.out | apply below_alloc | apply pw_below_drewN | apply below_drew1) | exact HB.out)⟩⟩
            · rw [if_neg c32] at H
              have c32b0 : ((strOfNums t105).toList == (strOfNums t109).toList) = false := beq_eq_false_iff_ne.mpr c32
              have c32b1 : ((strOfNums t105).toList != (strOfNums t109).toList) = true := bne_iff_ne.mpr c32
              (first | rw [c32b0] | (simp only [i64_w, i32_w]; rw [c32b0]) | skip)
              exact absurd H (by cases k <;> simp [braidworklaw02_VectorSpace.j0])
          case rest =>
            clear HC20
            try clear c1
            try clear c2
            try clear p2
            try clear c3
            try clear hcv3
            try clear hcv4
            try clear c5
            try clear hcv5
            try clear c8
            try clear c8b0
            try clear c8b1
            try clear c9
            try clear c9b0
            try clear c9b1
            try clear c10
            try clear c10b0
            try clear c11
            try clear c11b0
            try clear c11b1
            try clear c12
            try clear c12b0
            try clear c13
            try clear c13b0
            try clear c13b1
            try clear c32
            try clear c32b0
            try clear c32b1
            try clear c33
            try clear c33b0
            try clear c33b1
            try clear c34
            try clear c34b0
            try clear c34b1
            try clear c36
            try clear hcv37
            try clear hcv38
            try clear hcv39
            try clear hcv40
            try clear hcv42
            try clear hcv43
            try clear hcv44
            try clear hcv45
            try clear hcv47
            try clear hcv48
            try clear hcv49
            try clear hcv50
            try clear hcv51
            try clear hcv52
            try clear hcv53
            try clear hcv54
            try clear hcv55
            try clear hcv56
            obtain ⟨kq, x113_19, rfl, HA, HJ19, HO_12, HB⟩ := hcut
            cases kq with
            | zero => exact absurd HA.out (by simp [braidworklaw02_VectorSpace.j0])
            | succ kj19 =>
              have H := HA.out
              clear HA
              simp only [braidworklaw02_VectorSpace.j0] at H
              by_cases c57 : x113_19 = true
              · subst c57
                have H1 : (none) = some r := by rw [if_pos rfl] at H; exact H
                clear H
                have H := H1
                clear H1
                exact absurd H (by simp)
              · replace c57 := Bool.eq_false_iff.mpr c57
                subst c57
                have H1 : ((vector_Scale.f yc21 a3).bind fun t130 => ((vector_Scale.f yc22 a3).bind fun t133 => ((vector_Add.f t130 t133).bind fun bt136 => ((vector_AddScaled.f yc21 yc22 a3).bind fun bt140 => ((vector_Add.f yc21 t133).bind fun bt144 => ((vector_Scale.f t105 a3).bind fun t148 => (if (strOfNums t148).toList = (strOfNums bt136.1).toList then (braidworklaw02_VectorSpace.j1 kj19 yc21 a3 a4 t130 ((strOfNums bt140.1).toList != (strOfNums bt144.1).toList)) else (braidworklaw02_VectorSpace.j1 kj19 yc21 a3 a4 t130 true)))))))) = some r := by rw [if_neg (show ¬ (false = true) by decide)] at H; exact H
                clear H
                have H := H1
                clear H1
                replace H := Option.bind_eq_some_iff.mp H
                obtain ⟨t130, A580, H⟩ := H
                replace H : ((vector_Scale.f yc22 a3).bind fun t133 => ((vector_Add.f t130 t133).bind fun bt136 => ((vector_AddScaled.f yc21 yc22 a3).bind fun bt140 => ((vector_Add.f yc21 t133).bind fun bt144 => ((vector_Scale.f t105 a3).bind fun t148 => (if (strOfNums t148).toList = (strOfNums bt136.1).toList then (braidworklaw02_VectorSpace.j1 kj19 yc21 a3 a4 t130 ((strOfNums bt140.1).toList != (strOfNums bt144.1).toList)) else (braidworklaw02_VectorSpace.j1 kj19 yc21 a3 a4 t130 true))))))) = some r := H
                have A58 := Aside0.mk A580
                clear A580
                replace H := Option.bind_eq_some_iff.mp H
                obtain ⟨t133, A590, H⟩ := H
                replace H : ((vector_Add.f t130 t133).bind fun bt136 => ((vector_AddScaled.f yc21 yc22 a3).bind fun bt140 => ((vector_Add.f yc21 t133).bind fun bt144 => ((vector_Scale.f t105 a3).bind fun t148 => (if (strOfNums t148).toList = (strOfNums bt136.1).toList then (braidworklaw02_VectorSpace.j1 kj19 yc21 a3 a4 t130 ((strOfNums bt140.1).toList != (strOfNums bt144.1).toList)) else (braidworklaw02_VectorSpace.j1 kj19 yc21 a3 a4 t130 true)))))) = some r := H
                have A59 := Aside0.mk A590
                clear A590
                replace H := Option.bind_eq_some_iff.mp H
                obtain ⟨⟨t136, t139⟩, A600, H⟩ := H
                replace H : ((vector_AddScaled.f yc21 yc22 a3).bind fun bt140 => ((vector_Add.f yc21 t133).bind fun bt144 => ((vector_Scale.f t105 a3).bind fun t148 => (if (strOfNums t148).toList = (strOfNums t136).toList then (braidworklaw02_VectorSpace.j1 kj19 yc21 a3 a4 t130 ((strOfNums bt140.1).toList != (strOfNums bt144.1).toList)) else (braidworklaw02_VectorSpace.j1 kj19 yc21 a3 a4 t130 true))))) = some r := H
                have A60 := Aside0.mk A600
                clear A600
                replace H := Option.bind_eq_some_iff.mp H
                obtain ⟨⟨t140, t143⟩, A610, H⟩ := H
                replace H : ((vector_Add.f yc21 t133).bind fun bt144 => ((vector_Scale.f t105 a3).bind fun t148 => (if (strOfNums t148).toList = (strOfNums t136).toList then (braidworklaw02_VectorSpace.j1 kj19 yc21 a3 a4 t130 ((strOfNums t140).toList != (strOfNums bt144.1).toList)) else (braidworklaw02_VectorSpace.j1 kj19 yc21 a3 a4 t130 true)))) = some r := H
                have A61 := Aside0.mk A610
                clear A610
                replace H := Option.bind_eq_some_iff.mp H
                obtain ⟨⟨t144, t147⟩, A620, H⟩ := H
                replace H : ((vector_Scale.f t105 a3).bind fun t148 => (if (strOfNums t148).toList = (strOfNums t136).toList then (braidworklaw02_VectorSpace.j1 kj19 yc21 a3 a4 t130 ((strOfNums t140).toList != (strOfNums t144).toList)) else (braidworklaw02_VectorSpace.j1 kj19 yc21 a3 a4 t130 true))) = some r := H
                have A62 := Aside0.mk A620
                clear A620
                have HC63 := Aside0.mk H
                clear H
                go_upto_region 15 with (first | (go_at_call 19; (with_reducible refine (vector_Scale.callsV _ _ yc21 a3 t130 _ ?side1 ?side2 A58.out).mono ?_); (case side1 => repeat (first | exact (Kd.C_below HR102.out HB.out) | (with_reducible refine Kd.C_alloc ?_ _) | (with_reducible refine Kd.C_drewN ?_ _) | (with_reducible refine Kd.C_drew ?_))); (case side2 => exact HC102.out); rintro e w64 ⟨v131, rfl, ho0, hb⟩; have n0_ := Aside0.mk (Kd.V_below (by (with_reducible repeat (first | apply Kd.V_alloc | apply Kd.V_drewN | apply Kd.V_drew)); exact HO_12.out) hb); have n1_ := Aside0.mk (Kd.V_lower (Kd.V_mono (ok' := fun k_ => True) ho0 (fun k_ hk_ => trivial)) (below_size (by repeat (first | (with_reducible first | exact HB.out | apply below_alloc | apply pw_below_drewN | apply below_drew1) | exact HB.out)))); have n2_ := Aside0.mk (below_step (by repeat (first | (with_reducible first | exact HB.out | apply below_alloc | apply pw_below_drewN | apply below_drew1) | exact HB.out)) hb); clear HO_12; clear HB; have HO_12 := n0_; have HO132 := n1_; have HB := n2_; clear n0_ n1_ n2_; (try clear hb); (try clear hb2); (try clear hk); (try clear hi); (try clear ho0)) | (go_at_call 19; (with_reducible refine (vector_Scale.callsV _ _ yc22 a3 t133 _ ?side1 ?side2 A59.out).mono ?_); (case side1 => repeat (first | exact (Kd.C_below HR103.out HB.out) | (with_reducible refine Kd.C_alloc ?_ _) | (with_reducible refine Kd.C_drewN ?_ _) | (with_reducible refine Kd.C_drew ?_))); (case side2 => exact HC103.out); rintro e w65 ⟨v134, rfl, ho0, hb⟩; have n0_ := Aside0.mk (Kd.V_below (by (with_reducible repeat (first | apply Kd.V_alloc | apply Kd.V_drewN | apply Kd.V_drew)); exact HO_12.out) hb); have n1_ := Aside0.mk (Kd.V_below (by (with_reducible repeat (first | apply Kd.V_alloc | apply Kd.V_drewN | apply Kd.V_drew)); exact HO132.out) hb); have n2_ := Aside0.mk (Kd.V_lower (Kd.V_mono (ok' := fun k_ => True) ho0 (fun k_ hk_ => trivial)) (below_size (by repeat (first | (with_reducible first | exact HB.out | apply below_alloc | apply pw_below_drewN | apply below_drew1) | exact HB.out)))); have n3_ := Aside0.mk (below_step (by repeat (first | (with_reducible first | exact HB.out | apply below_alloc | apply pw_below_drewN | apply below_drew1) | exact HB.out)) hb); clear HO_12; clear HO132; clear HB; have HO_12 := n0_; have HO132 := n1_; have HO135 := n2_; have HB := n3_; clear n0_ n1_ n2_ n3_; (try clear hb); (try clear hb2); (try clear hk); (try clear hi); (try clear ho0); obtain ⟨Ao66, co66, eo66⟩ := Kd.V_slice HO132.out; subst eo66; obtain ⟨Ao67, co67, eo67⟩ := Kd.V_slice HO135.out; subst eo67) | (go_at_call 14; (with_reducible refine (vector_Add.callsV _ _ t130 _ _ t133 t136 t139 _ ?side1 ?side2 ?side3 ?side4 A60.out).mono ?_); (case side1 => repeat (first | exact (Kd.V_reads' HO132.out).2.2 | (with_reducible refine Kd.C_alloc ?_ _) | (with_reducible refine Kd.C_drewN ?_ _) | (with_reducible refine Kd.C_drew ?_))); (case side2 => exact (Kd.V_reads' HO132.out).2.1); (case side3 => repeat (first | exact (Kd.V_reads' HO135.out).2.2 | (with_reducible refine Kd.C_alloc ?_ _) | (with_reducible refine Kd.C_drewN ?_ _) | (with_reducible refine Kd.C_drew ?_))); (case side4 => exact (Kd.V_reads' HO135.out).2.1); rintro e w68 ⟨v137, rfl, ho0, hb⟩; have n0_ := Aside0.mk (Kd.V_below (by (with_reducible repeat (first | apply Kd.V_alloc | apply Kd.V_drewN | apply Kd.V_drew)); exact HO_12.out) hb); have n1_ := Aside0.mk (Kd.V_below (by (with_reducible repeat (first | apply Kd.V_alloc | apply Kd.V_drewN | apply Kd.V_drew)); exact HO132.out) hb); have n2_ := Aside0.mk (Kd.V_below (by (with_reducible repeat (first | apply Kd.V_alloc | apply Kd.V_drewN | apply Kd.V_drew)); exact HO135.out) hb); have n3_ := Aside0.mk (Kd.V_lower (Kd.V_mono (ok' := fun k_ => True) ho0 (fun k_ hk_ => trivial)) (below_size (by repeat (first | (with_reducible first | exact HB.out | apply below_alloc | apply pw_below_drewN | apply below_drew1) | exact HB.out)))); have n4_ := Aside0.mk (below_step (by repeat (first | (with_reducible first | exact HB.out | apply below_alloc | apply pw_below_drewN | apply below_drew1) | exact HB.out)) hb); clear HO_12; clear HO132; clear HO135; clear HB; have HO_12 := n0_; have HO132 := n1_; have HO135 := n2_; have HO138 := n3_; have HB := n4_; clear n0_ n1_ n2_ n3_ n4_; (try clear hb); (try clear hb2); (try clear hk); (try clear hi); (try clear ho0)) | (go_at_call 16; (with_reducible refine (vector_AddScaled.callsV _ _ yc21 _ _ yc22 a3 t140 t143 _ ?side1 ?side2 ?side3 ?side4 A61.out).mono ?_); (case side1 => repeat (first | exact (Kd.C_below HR102.out HB.out) | (with_reducible refine Kd.C_alloc ?_ _) | (with_reducible refine Kd.C_drewN ?_ _) | (with_reducible refine Kd.C_drew ?_))); (case side2 => exact HC102.out); (case side3 => repeat (first | exact (Kd.C_below HR103.out HB.out) | (with_reducible refine Kd.C_alloc ?_ _) | (with_reducible refine Kd.C_drewN ?_ _) | (with_reducible refine Kd.C_drew ?_))); (case side4 => exact HC103.out); rintro e w69 ⟨v141, rfl, ho0, hb⟩; have n0_ := Aside0.mk (Kd.V_below (by (with_reducible repeat (first | apply Kd.V_alloc | apply Kd.V_drewN | apply Kd.V_drew)); exact HO_12.out) hb); have n1_ := Aside0.mk (Kd.V_below (by (with_reducible repeat (first | apply Kd.V_alloc | apply Kd.V_drewN | apply Kd.V_drew)); exact HO132.out) hb); have n2_ := Aside0.mk (Kd.V_below (by (with_reducible repeat (first | apply Kd.V_alloc | apply Kd.V_drewN | apply Kd.V_drew)); exact HO135.out) hb); have n3_ := Aside0.mk (Kd.V_below (by (with_reducible repeat (first | apply Kd.V_alloc | apply Kd.V_drewN | apply Kd.V_drew)); exact HO138.out) hb); have n4_ := Aside0.mk (Kd.V_lower (Kd.V_mono (ok' := fun k_ => True) ho0 (fun k_ hk_ => trivial)) (below_size (by repeat (first | (with_reducible first | exact HB.out | apply below_alloc | apply pw_below_drewN | apply below_drew1) | exact HB.out)))); have n5_ := Aside0.mk (below_step (by repeat (first | (with_reducible first | exact HB.out | apply below_alloc | apply pw_below_drewN | apply below_drew1) | exact HB.out)) hb); clear HO_12; clear HO132; clear HO135; clear HO138; clear HB; have HO_12 := n0_; have HO132 := n1_; have HO135 := n2_; have HO138 := n3_; have HO142 := n4_; have HB := n5_; clear n0_ n1_ n2_ n3_ n4_ n5_; (try clear hb); (try clear hb2); (try clear hk); (try clear hi); (try clear ho0)) | (go_at_call 14; (with_reducible refine (vector_Add.callsV _ _ yc21 _ _ t133 t144 t147 _ ?side1 ?side2 ?side3 ?side4 A62.out).mono ?_); (case side1 => repeat (first | exact (Kd.C_below HR102.out HB.out) | (with_reducible refine Kd.C_alloc ?_ _) | (with_reducible refine Kd.C_drewN ?_ _) | (with_reducible refine Kd.C_drew ?_))); (case side2 => exact HC102.out); (case side3 => repeat (first | exact (Kd.V_reads' HO135.out).2.2 | (with_reducible refine Kd.C_alloc ?_ _) | (with_reducible refine Kd.C_drewN ?_ _) | (with_reducible refine Kd.C_drew ?_))); (case side4 => exact (Kd.V_reads' HO135.out).2.1); rintro e w70 ⟨v145, rfl, ho0, hb⟩; have n0_ := Aside0.mk (Kd.V_below (by (with_reducible repeat (first | apply Kd.V_alloc | apply Kd.V_drewN | apply Kd.V_drew)); exact HO_12.out) hb); have n1_ := Aside0.mk (Kd.V_below (by (with_reducible repeat (first | apply Kd.V_alloc | apply Kd.V_drewN | apply Kd.V_drew)); exact HO132.out) hb); have n2_ := Aside0.mk (Kd.V_below (by (with_reducible repeat (first | apply Kd.V_alloc | apply Kd.V_drewN | apply Kd.V_drew)); exact HO135.out) hb); have n3_ := Aside0.mk (Kd.V_below (by (with_reducible repeat (first | apply Kd.V_alloc | apply Kd.V_drewN | apply Kd.V_drew)); exact HO138.out) hb); have n4_ := Aside0.mk (Kd.V_below (by (with_reducible repeat (first | apply Kd.V_alloc | apply Kd.V_drewN | apply Kd.V_drew)); exact HO142.out) hb); have n5_ := Aside0.mk (Kd.V_lower (Kd.V_mono (ok' := fun k_ => True) ho0 (fun k_ hk_ => trivial)) (below_size (by repeat (first | (with_reducible first | exact HB.out | apply below_alloc | apply pw_below_drewN | apply below_drew1) | exact HB.out)))); have n6_ := Aside0.mk (below_step (by repeat (first | (with_reducible first | exact HB.out | apply below_alloc | apply pw_below_drewN | apply below_drew1) | exact HB.out)) hb); clear HO_12; clear HO132; clear HO135; clear HO138; clear HO142; clear HB; have HO_12 := n0_; have HO132 := n1_; have HO135 := n2_; have HO138 := n3_; have HO142 := n4_; have HO146 := n5_; have HB := n6_; clear n0_ n1_ n2_ n3_ n4_ n5_ n6_; (try clear hb); (try clear hb2); (try clear hk); (try clear hi); (try clear ho0)))
                repeat (go_quiet (first | (go_at_call 19; (with_reducible refine (vector_Scale.callsV _ _ yc21 a3 t130 _ ?side1 ?side2 A58.out).mono ?_); (case side1 => repeat (first | exact (Kd.C_below HR102.out HB.out) | (with_reducible refine Kd.C_alloc ?_ _) | (with_reducible refine Kd.C_drewN ?_ _) | (with_reducible refine Kd.C_drew ?_))); (case side2 => exact HC102.out); rintro e w64 ⟨v131, rfl, ho0, hb⟩; have n0_ := Aside0.mk (Kd.V_below (by (with_reducible repeat (first | apply Kd.V_alloc | apply Kd.V_drewN | apply Kd.V_drew)); exact HO_12.out) hb); have n1_ := Aside0.mk (Kd.V_lower (Kd.V_mono (ok' := fun k_ => True) ho0 (fun k_ hk_ => trivial)) (below_size (by repeat (first | (with_reducible first | exact HB.out | apply below_alloc | apply pw_below_drewN | apply below_drew1) | exact HB.out)))); have n2_ := Aside0.mk (below_step (by repeat (first | (with_reducible first | exact HB.out | apply below_alloc | apply pw_below_drewN | apply below_drew1) | exact HB.out)) hb); clear HO_12; clear HB; have HO_12 := n0_; have HO132 := n1_; have HB := n2_; clear n0_ n1_ n2_; (try clear hb); (try clear hb2); (try clear hk); (try clear hi); (try clear ho0)) | (go_at_call 19; (with_reducible refine (vector_Scale.callsV _ _ yc22 a3 t133 _ ?side1 ?side2 A59.out).mono ?_); (case side1 => repeat (first | exact (Kd.C_below HR103.out HB.out) | (with_reducible refine Kd.C_alloc ?_ _) | (with_reducible refine Kd.C_drewN ?_ _) | (with_reducible refine Kd.C_drew ?_))); (case side2 => exact HC103.out); rintro e w65 ⟨v134, rfl, ho0, hb⟩; have n0_ := Aside0.mk (Kd.V_below (by (with_reducible repeat (first | apply Kd.V_alloc | apply Kd.V_drewN | apply Kd.V_drew)); exact HO_12.out) hb); have n1_ := Aside0.mk (Kd.V_below (by (with_reducible repeat (first | apply Kd.V_alloc | apply Kd.V_drewN | apply Kd.V_drew)); exact HO132.out) hb); have n2_ := Aside0.mk (Kd.V_lower (Kd.V_mono (ok' := fun k_ => True) ho0 (fun k_ hk_ => trivial)) (below_size (by repeat (first | (with_reducible first | exact HB.out | apply below_alloc | apply pw_below_drewN | apply below_drew1) | exact HB.out)))); have n3_ := Aside0.mk (below_step (by repeat (first | (with_reducible first | exact HB.out | apply below_alloc | apply pw_below_drewN | apply below_drew1) | exact HB.out)) hb); clear HO_12; clear HO132; clear HB; have HO_12 := n0_; have HO132 := n1_; have HO135 := n2_; have HB := n3_; clear n0_ n1_ n2_ n3_; (try clear hb); (try clear hb2); (try clear hk); (try clear hi); (try clear ho0); obtain ⟨Ao66, co66, eo66⟩ := Kd.V_slice HO132.out; subst eo66; obtain ⟨Ao67, co67, eo67⟩ := Kd.V_slice HO135.out; subst eo67) | (go_at_call 14; (with_reducible refine (vector_Add.callsV _ _ t130 _ _ t133 t136 t139 _ ?side1 ?side2 ?side3 ?side4 A60.out).mono ?_); (case side1 => repeat (first | exact (Kd.V_reads' HO132.out).2.2 | (with_reducible refine Kd.C_alloc ?_ _) | (with_reducible refine Kd.C_drewN ?_ _) | (with_reducible refine Kd.C_drew ?_))); (case side2 => exact (Kd.V_reads' HO132.out).2.1); (case side3 => repeat (first | exact (Kd.V_reads' HO135.out).2.2 | (with_reducible refine Kd.C_alloc ?_ _) | (with_reducible refine Kd.C_drewN ?_ _) | (with_reducible refine Kd.C_drew ?_))); (case side4 => exact (Kd.V_reads' HO135.out).2.1); rintro e w68 ⟨v137, rfl, ho0, hb⟩; have n0_ := Aside0.mk (Kd.V_below (by (with_reducible repeat (first | apply Kd.V_alloc | apply Kd.V_drewN | apply Kd.V_drew)); exact HO_12.out) hb); have n1_ := Aside0.mk (Kd.V_below (by (with_reducible repeat (first | apply Kd.V_alloc | apply Kd.V_drewN | apply Kd.V_drew)); exact HO132.out) hb); have n2_ := Aside0.mk (Kd.V_below (by (with_reducible repeat (first | apply Kd.V_alloc | apply Kd.V_drewN | apply Kd.V_drew)); exact HO135.out) hb); have n3_ := Aside0.mk (Kd.V_lower (Kd.V_mono (ok' := fun k_ => True) ho0 (fun k_ hk_ => trivial)) (below_size (by repeat (first | (with_reducible first | exact HB.out | apply below_alloc | apply pw_below_drewN | apply below_drew1) | exact HB.out)))); have n4_ := Aside0.mk (below_step (by repeat (first | (with_reducible first | exact HB.out | apply below_alloc | apply pw_below_drewN | apply below_drew1) | exact HB.out)) hb); clear HO_12; clear HO132; clear HO135; clear HB; have HO_12 := n0_; have HO132 := n1_; have HO135 := n2_; have HO138 := n3_; have HB := n4_; clear n0_ n1_ n2_ n3_ n4_; (try clear hb); (try clear hb2); (try clear hk); (try clear hi); (try clear ho0)) | (go_at_call 16; (with_reducible refine (vector_AddScaled.callsV _ _ yc21 _ _ yc22 a3 t140 t143 _ ?side1 ?side2 ?side3 ?side4 A61.out).mono ?_); (case side1 => repeat (first | exact (Kd.C_below HR102.out HB.out) | (with_reducible refine Kd.C_alloc ?_ _) | (with_reducible refine Kd.C_drewN ?_ _) | (with_reducible refine Kd.C_drew ?_))); (case side2 => exact HC102.out); (case side3 => repeat (first | exact (Kd.C_below HR103.out HB.out) | (with_reducible refine Kd.C_alloc ?_ _) | (with_reducible refine Kd.C_drewN ?_ _) | (with_reducible refine Kd.C_drew ?_))); (case side4 => exact HC103.out); rintro e w69 ⟨v141, rfl, ho0, hb⟩; have n0_ := Aside0.mk (Kd.V_below (by (with_reducible repeat (first | apply Kd.V_alloc | apply Kd.V_drewN | apply Kd.V_drew)); exact HO_12.out) hb); have n1_ := Aside0.mk (Kd.V_below (by (with_reducible repeat (first | apply Kd.V_alloc | apply Kd.V_drewN | apply Kd.V_drew)); exact HO132.out) hb); have n2_ := Aside0.mk (Kd.V_below (by (with_reducible repeat (first | apply Kd.V_alloc | apply Kd.V_drewN | apply Kd.V_drew)); exact HO135.out) hb); have n3_ := Aside0.mk (Kd.V_below (by (with_reducible repeat (first | apply Kd.V_alloc | apply Kd.V_drewN | apply Kd.V_drew)); exact HO138.out) hb); have n4_ := Aside0.mk (Kd.V_lower (Kd.V_mono (ok' := fun k_ => True) ho0 (fun k_ hk_ => trivial)) (below_size (by repeat (first | (with_reducible first | exact HB.out | apply below_alloc | apply pw_below_drewN | apply below_drew1) | exact HB.out)))); have n5_ := Aside0.mk (below_step (by repeat (first | (with_reducible first | exact HB.out | apply below_alloc | apply pw_below_drewN | apply below_drew1) | exact HB.out)) hb); clear HO_12; clear HO132; clear HO135; clear HO138; clear HB; have HO_12 := n0_; have HO132 := n1_; have HO135 := n2_; have HO138 := n3_; have HO142 := n4_; have HB := n5_; clear n0_ n1_ n2_ n3_ n4_ n5_; (try clear hb); (try clear hb2); (try clear hk); (try clear hi); (try clear ho0)) | (go_at_call 14; (with_reducible refine (vector_Add.callsV _ _ yc21 _ _ t133 t144 t147 _ ?side1 ?side2 ?side3 ?side4 A62.out).mono ?_); (case side1 => repeat (first | exact (Kd.C_below HR102.out HB.out) | (with_reducible refine Kd.C_alloc ?_ _) | (with_reducible refine Kd.C_drewN ?_ _) | (with_reducible refine Kd.C_drew ?_))); (case side2 => exact HC102.out); (case side3 => repeat (first | exact (Kd.V_reads' HO135.out).2.2 | (with_reducible refine Kd.C_alloc ?_ _) | (with_reducible refine Kd.C_drewN ?_ _) | (with_reducible refine Kd.C_drew ?_))); (case side4 => exact (Kd.V_reads' HO135.out).2.1); rintro e w70 ⟨v145, rfl, ho0, hb⟩; have n0_ := Aside0.mk (Kd.V_below (by (with_reducible repeat (first | apply Kd.V_alloc | apply Kd.V_drewN | apply Kd.V_drew)); exact HO_12.out) hb); have n1_ := Aside0.mk (Kd.V_below (by (with_reducible repeat (first | apply Kd.V_alloc | apply Kd.V_drewN | apply Kd.V_drew)); exact HO132.out) hb); have n2_ := Aside0.mk (Kd.V_below (by (with_reducible repeat (first | apply Kd.V_alloc | apply Kd.V_drewN | apply Kd.V_drew)); exact HO135.out) hb); have n3_ := Aside0.mk (Kd.V_below (by (with_reducible repeat (first | apply Kd.V_alloc | apply Kd.V_drewN | apply Kd.V_drew)); exact HO138.out) hb); have n4_ := Aside0.mk (Kd.V_below (by (with_reducible repeat (first | apply Kd.V_alloc | apply Kd.V_drewN | apply Kd.V_drew)); exact HO142.out) hb); have n5_ := Aside0.mk (Kd.V_lower (Kd.V_mono (ok' := fun k_ => True) ho0 (fun k_ hk_ => trivial)) (below_size (by repeat (first | (with_reducible first | exact HB.out | apply below_alloc | apply pw_below_drewN | apply below_drew1) | exact HB.out)))); have n6_ := Aside0.mk (below_step (by repeat (first | (with_reducible first | exact HB.out | apply below_alloc | apply pw_below_drewN | apply below_drew1) | exact HB.out)) hb); clear HO_12; clear HO132; clear HO135; clear HO138; clear HO142; clear HB; have HO_12 := n0_; have HO132 := n1_; have HO135 := n2_; have HO138 := n3_; have HO142 := n4_; have HO146 := n5_; have HB := n6_; clear n0_ n1_ n2_ n3_ n4_ n5_ n6_; (try clear hb); (try clear hb2); (try clear hk); (try clear hi); (try clear ho0))); go_upto_region 15 with (first | (go_at_call 19; (with_reducible refine (vector_Scale.callsV _ _ yc21 a3 t130 _ ?side1 ?side2 A58.out).mono ?_); (case side1 => repeat (first | exact (Kd.C_below HR102.out HB.out) | (with_reducible refine Kd.C_alloc ?_ _) | (with_reducible refine Kd.C_drewN ?_ _) | (with_reducible refine Kd.C_drew ?_))); (case side2 => exact HC102.out); rintro e w64 ⟨v131, rfl, ho0, hb⟩; have n0_ := Aside0.mk (Kd.V_below (by (with_reducible repeat (first | apply Kd.V_alloc | apply Kd.V_drewN | apply Kd.V_drew)); exact HO_12.out) hb); have n1_ := Aside0.mk (Kd.V_lower (Kd.V_mono (ok' := fun k_ => True) ho0 (fun k_ hk_ => trivial)) (below_size (by repeat (first | (with_reducible first | exact HB.out | apply below_alloc | apply pw_below_drewN | apply below_drew1) | exact HB.out)))); have n2_ := Aside0.mk (below_step (by repeat (first | (with_reducible first | exact HB.out | apply below_alloc | apply pw_below_drewN | apply below_drew1) | exact HB.out)) hb); clear HO_12; clear HB; have HO_12 := n0_; have HO132 := n1_; have HB := n2_; clear n0_ n1_ n2_; (try clear hb); (try clear hb2); (try clear hk); (try clear hi); (try clear ho0)) | (go_at_call 19; (with_reducible refine (vector_Scale.callsV _ _ yc22 a3 t133 _ ?side1 ?side2 A59.out).mono ?_); (case side1 => repeat (first | exact (Kd.C_below HR103.out HB.out) | (with_reducible refine Kd.C_alloc ?_ _) | (with_reducible refine Kd.C_drewN ?_ _) | (with_reducible refine Kd.C_drew ?_))); (case side2 => exact HC103.out); rintro e w65 ⟨v134, rfl, ho0, hb⟩; have n0_ := Aside0.mk (Kd.V_below (by (with_reducible repeat (first | apply Kd.V_alloc | apply Kd.V_drewN | apply Kd.V_drew)); exact HO_12.out) hb); have n1_ := Aside0.mk (Kd.V_below (by (with_reducible repeat (first | apply Kd.V_alloc | apply Kd.V_drewN | apply Kd.V_drew)); exact HO132.out) hb); have n2_ := Aside0.mk (Kd.V_lower (Kd.V_mono (ok' := fun k_ => True) ho0 (fun k_ hk_ => trivial)) (below_size (by repeat (first | (with_reducible first | exact HB.out | apply below_alloc | apply pw_below_drewN | apply below_drew1) | exact HB.out)))); have n3_ := Aside0.mk (below_step (by repeat (first | (with_reducible first | exact HB.out | apply below_alloc | apply pw_below_drewN | apply below_drew1) | exact HB.out)) hb); clear HO_12; clear HO132; clear HB; have HO_12 := n0_; have HO132 := n1_; have HO135 := n2_; have HB := n3_; clear n0_ n1_ n2_ n3_; (try clear hb); (try clear hb2); (try clear hk); (try clear hi); (try clear ho0); obtain ⟨Ao66, co66, eo66⟩ := Kd.V_slice HO132.out; subst eo66; obtain ⟨Ao67, co67, eo67⟩ := Kd.V_slice HO135.out; subst eo67) | (go_at_call 14; (with_reducible refine (vector_Add.callsV _ _ t130 _ _ t133 t136 t139 _ ?side1 ?side2 ?side3 ?side4 A60.out).mono ?_); (case side1 => repeat (first | exact (Kd.V_reads' HO132.out).2.2 | (with_reducible refine Kd.C_alloc ?_ _) | (with_reducible refine Kd.C_drewN ?_ _) | (with_reducible refine Kd.C_drew ?_))); (case side2 => exact (Kd.V_reads' HO132.out).2.1); (case side3 => repeat (first | exact (Kd.V_reads' HO135.out).2.2 | (with_reducible refine Kd.C_alloc ?_ _) | (with_reducible refine Kd.C_drewN ?_ _) | (with_reducible refine Kd.C_drew ?_))); (case side4 => exact (Kd.V_reads' HO135.out).2.1); rintro e w68 ⟨v137, rfl, ho0, hb⟩; have n0_ := Aside0.mk (Kd.V_below (by (with_reducible repeat (first | apply Kd.V_alloc | apply Kd.V_drewN | apply Kd.V_drew)); exact HO_12.out) hb); have n1_ := Aside0.mk (Kd.V_below (by (with_reducible repeat (first | apply Kd.V_alloc | apply Kd.V_drewN | apply Kd.V_drew)); exact HO132.out) hb); have n2_ := Aside0.mk (Kd.V_below (by (with_reducible repeat (first | apply Kd.V_alloc | apply Kd.V_drewN | apply Kd.V_drew)); exact HO135.out) hb); have n3_ := Aside0.mk (Kd.V_lower (Kd.V_mono (ok' := fun k_ => True) ho0 (fun k_ hk_ => trivial)) (below_size (by repeat (first | (with_reducible first | exact HB.out | apply below_alloc | apply pw_below_drewN | apply below_drew1) | exact HB.out)))); have n4_ := Aside0.mk (below_step (by repeat (first | (with_reducible first | exact HB.out | apply below_alloc | apply pw_below_drewN | apply below_drew1) | exact HB.out)) hb); clear HO_12; clear HO132; clear HO135; clear HB; have HO_12 := n0_; have HO132 := n1_; have HO135 := n2_; have HO138 := n3_; have HB := n4_; clear n0_ n1_ n2_ n3_ n4_; (try clear hb); (try clear hb2); (try clear hk); (try clear hi); (try clear ho0)) | (go_at_call 16; (with_reducible refine (vector_AddScaled.callsV _ _ yc21 _ _ yc22 a3 t140 t143 _ ?side1 ?side2 ?side3 ?side4 A61.out).mono ?_); (case side1 => repeat (first | exact (Kd.C_below HR102.out HB.out) | (with_reducible refine Kd.C_alloc ?_ _) | (with_reducible refine Kd.C_drewN ?_ _) | (with_reducible refine Kd.C_drew ?_))); (case side2 => exact HC102.out); (case side3 => repeat (first | exact (Kd.C_below HR103.out HB.out) | (with_reducible refine Kd.C_alloc ?_ _) | (with_reducible refine Kd.C_drewN ?_ _) | (with_reducible refine Kd.C_drew ?_))); (case side4 => exact HC103.out); rintro e w69 ⟨v141, rfl, ho0, hb⟩; have n0_ := Aside0.mk (Kd.V_below (by (with_reducible repeat (first | apply Kd.V_alloc | apply Kd.V_drewN | apply Kd.V_drew)); exact HO_12.out) hb); have n1_ := Aside0.mk (Kd.V_below (by (with_reducible repeat (first | apply Kd.V_alloc | apply Kd.V_drewN | apply Kd.V_drew)); exact HO132.out) hb); have n2_ := Aside0.mk (Kd.V_below (by (with_reducible repeat (first | apply Kd.V_alloc | apply Kd.V_drewN | apply Kd.V_drew)); exact HO135.out) hb); have n3_ := Aside0.mk (Kd.V_below (by (with_reducible repeat (first | apply Kd.V_alloc | apply Kd.V_drewN | apply Kd.V_drew)); exact HO138.out) hb); have n4_ := Aside0.mk (Kd.V_lower (Kd.V_mono (ok' := fun k_ => True) ho0 (fun k_ hk_ => trivial)) (below_size (by repeat (first | (with_reducible first | exact HB.out | apply below_alloc | apply pw_below_drewN | apply below_drew1) | exact HB.out)))); have n5_ := Aside0.mk (below_step (by repeat (first | (with_reducible first | exact HB.out | apply below_alloc | apply pw_below_drewN | apply below_drew1) | exact HB.out)) hb); clear HO_12; clear HO132; clear HO135; clear HO138; clear HB; have HO_12 := n0_; have HO132 := n1_; have HO135 := n2_; have HO138 := n3_; have HO142 := n4_; have HB := n5_; clear n0_ n1_ n2_ n3_ n4_ n5_; (try clear hb); (try clear hb2); (try clear hk); (try clear hi); (try clear ho0)) | (go_at_call 14; (with_reducible refine (vector_Add.callsV _ _ yc21 _ _ t133 t144 t147 _ ?side1 ?side2 ?side3 ?side4 A62.out).mono ?_); (case side1 => repeat (first | exact (Kd.C_below HR102.out HB.out) | (with_reducible refine Kd.C_alloc ?_ _) | (with_reducible refine Kd.C_drewN ?_ _) | (with_reducible refine Kd.C_drew ?_))); (case side2 => exact HC102.out); (case side3 => repeat (first | exact (Kd.V_reads' HO135.out).2.2 | (with_reducible refine Kd.C_alloc ?_ _) | (with_reducible refine Kd.C_drewN ?_ _) | (with_reducible refine Kd.C_drew ?_))); (case side4 => exact (Kd.V_reads' HO135.out).2.1); rintro e w70 ⟨v145, rfl, ho0, hb⟩; have n0_ := Aside0.mk (Kd.V_below (by (with_reducible repeat (first | apply Kd.V_alloc | apply Kd.V_drewN | apply Kd.V_drew)); exact HO_12.out) hb); have n1_ := Aside0.mk (Kd.V_below (by (with_reducible repeat (first | apply Kd.V_alloc | apply Kd.V_drewN | apply Kd.V_drew)); exact HO132.out) hb); have n2_ := Aside0.mk (Kd.V_below (by (with_reducible repeat (first | apply Kd.V_alloc | apply Kd.V_drewN | apply Kd.V_drew)); exact HO135.out) hb); have n3_ := Aside0.mk (Kd.V_below (by (with_reducible repeat (first | apply Kd.V_alloc | apply Kd.V_drewN | apply Kd.V_drew)); exact HO138.out) hb); have n4_ := Aside0.mk (Kd.V_below (by (with_reducible repeat (first | apply Kd.V_alloc | apply Kd.V_drewN | apply Kd.V_drew)); exact HO142.out) hb); have n5_ := Aside0.mk (Kd.V_lower (Kd.V_mono (ok' := fun k_ => True) ho0 (fun k_ hk_ => trivial)) (below_size (by repeat (first | (with_reducible first | exact HB.out | apply below_alloc | apply pw_below_drewN | apply below_drew1) | exact HB.out)))); have n6_ := Aside0.mk (below_step (by repeat (first | (with_reducible first | exact HB.out | apply below_alloc | apply pw_below_drewN | apply below_drew1) | exact HB.out)) hb); clear HO_12; clear HO132; clear HO135; clear HO138; clear HO142; clear HB; have HO_12 := n0_; have HO132 := n1_; have HO135 := n2_; have HO138 := n3_; have HO142 := n4_; have HO146 := n5_; have HB := n6_; clear n0_ n1_ n2_ n3_ n4_ n5_ n6_; (try clear hb); (try clear hb2); (try clear hk); (try clear hi); (try clear ho0))))
                (try simp only [Act.put, List.setIfInBounds_toArray, List.set_cons_zero, List.set_cons_succ])
                go_cut [152] (fun v152 wc => ∃ (kq : Nat) (x152_62 : Bool), v152 = .bool x152_62 ∧ Aside0 (braidworklaw02_VectorSpace.j1 kq yc21 a3 a4 t130 x152_62 = some r) ∧ Aside0 (kq ≤ kj19) ∧ Aside0 (Kd.V (Kd.int .u8) 5 wc w.heap.size (fun _ => True) (.slice Ao66 t130.length co66) t130) ∧ Aside0 (Below w.heap.size w wc))
                case first =>
                  have H := HC63.out
                  clear HC63
                  replace H := Option.bind_eq_some_iff.mp H
                  obtain ⟨t148, A710, H⟩ := H
                  replace H : (if (strOfNums t148).toList = (strOfNums t136).toList then (braidworklaw02_VectorSpace.j1 kj19 yc21 a3 a4 t130 ((strOfNums t140).toList != (strOfNums t144).toList)) else (braidworklaw02_VectorSpace.j1 kj19 yc21 a3 a4 t130 true)) = some r := H
                  have A71 := Aside0.mk A710
                  clear A710
                  by_cases c72 : (strOfNums t148).toList = (strOfNums t136).toList
                  · rw [if_pos c72] at H
                    have c72b0 : ((strOfNums t148).toList == (strOfNums t136).toList) = true := beq_iff_eq.mpr c72
                    have c72b1 : ((strOfNums t148).toList != (strOfNums t136).toList) = false := bne_eq_false_iff_eq.mpr c72
                    clear c72
                    (first | rw [c72b0] | (simp only [i64_w, i32_w]; rw [c72b0]) | skip)
                    have H' := Aside0.mk H
                    clear H
                    try go_upto_region 15 with (fail)
                    refine startG_ (n := 14) #[false, false, false, false, false, false, false, false, false, false, false, false, false, false] (by kernel_rfl) rfl rfl (fun wD hbD => ?_)
                    have n_ := Aside0.mk (Kd.V_below HO_12.out hbD)
                    clear HO_12
                    have HO_12 := n_
                    clear n_
                    have n_ := Aside0.mk (Kd.V_below HO132.out hbD)
                    clear HO132
                    have HO132 := n_
                    clear n_
                    have n_ := Aside0.mk (Kd.V_below HO135.out hbD)
                    clear HO135
                    have HO135 := n_
                    clear n_
                    have n_ := Aside0.mk (Kd.V_below HO138.out hbD)
                    clear HO138
                    have HO138 := n_
                    clear n_
                    have n_ := Aside0.mk (Kd.V_below HO142.out hbD)
                    clear HO142
                    have HO142 := n_
                    clear n_
                    have n_ := Aside0.mk (Kd.V_below HO146.out hbD)
                    clear HO146
                    have HO146 := n_
                    clear n_
                    have n_ := Aside0.mk (below_step HB.out hbD)
                    clear HB
                    have HB := n_
                    clear n_
                    clear hbD
                    refine pure_ (i := 0) (N := some 139) (v := ?_) (a' := ?_) #[true, false, false, false, false, false, false, false, false, false, false, false, false, false] rfl rfl (by kernel_rfl) (fun _ _ _ h => h) (Or.inl ⟨by rfl, ?_⟩) ?_ ?_
                    rotate_left
                    · intro w' 
                      go_simp
                      with_reducible rfl
                    rotate_left
                    · simp only [Act.put, List.setIfInBounds_toArray, List.set_cons_zero, List.set_cons_succ, i64_w, i32_w]
                      rfl
                    refine pure_ (i := 1) (N := some 140) (v := ?_) (a' := ?_) #[true, true, false, false, false, false, false, false, false, false, false, false, false, false] rfl rfl (by kernel_rfl) (fun _ _ _ h => h) (Or.inl ⟨by rfl, ?_⟩) ?_ ?_
                    rotate_left
                    · intro w' 
                      go_simp
                      with_reducible rfl
                    rotate_left
                    · simp only [Act.put, List.setIfInBounds_toArray, List.set_cons_zero, List.set_cons_succ, i64_w, i32_w]
                      rfl
                    refine pure_ (i := 4) (N := some 143) (v := ?_) (a' := ?_) #[true, true, false, false, true, false, false, false, false, false, false, false, false, false] rfl rfl (by kernel_rfl) (fun _ _ _ h => h) (Or.inl ⟨by rfl, ?_⟩) ?_ ?_
                    rotate_left
                    · intro w' 
                      go_simp
                      with_reducible rfl
                    rotate_left
                    · simp only [Act.put, List.setIfInBounds_toArray, List.set_cons_zero, List.set_cons_succ, i64_w, i32_w]
                      rfl
                    refine readB_ (i := 5) (N := some 144) (v := ?_) (a' := ?_) #[true, true, false, false, true, true, false, false, false, false, false, false, false, false] rfl rfl (by kernel_rfl) (fun _ _ _ h => h) (Or.inl ⟨by rfl, ?_⟩) ?_ ?_
                    rotate_left
                    · intro w' s0
                      first | (have hq_ := V_string (P := Try.prog) Try.underlying23 Try.underlying5 Try.underlying9 (Kd.V_below HO150.out s0); refine (conv_run rfl hq_ (by rfl)).trans ?_; with_reducible rfl) | (have hq_ := V_string (P := Try.prog) Try.underlying23 Try.underlying5 Try.underlying9 (Kd.V_below HO138.out s0); refine (conv_run rfl hq_ (by rfl)).trans ?_; with_reducible rfl) | (have hq_ := V_string (P := Try.prog) Try.underlying23 Try.underlying5 Try.underlying9 (Kd.V_below HO142.out s0); refine (conv_run rfl hq_ (by rfl)).trans ?_; with_reducible rfl) | (have hq_ := V_string (P := Try.prog) Try.underlying23 Try.underlying5 Try.underlying9 (Kd.V_below HO146.out s0); refine (conv_run rfl hq_ (by rfl)).trans ?_; with_reducible rfl)
                    rotate_left
                    · simp only [Act.put, List.setIfInBounds_toArray, List.set_cons_zero, List.set_cons_succ, i64_w, i32_w]
                      rfl
                    refine oneB_ (i := 2) (N := some 141) #[true, true, true, false, true, true, false, false, false, false, false, false, false, false] rfl rfl (by kernel_rfl) (fun K hK => ?_)
                    rw [if_pos (by rfl)]
                    go_simp
                    go_at_call 19
                    (with_reducible refine (vector_Scale.callsV _ _ t105 a3 t148 _ ?side1 ?side2 A71.out).mono ?_)
                    (case side1 => repeat (first | exact (Kd.V_reads' HO_12.out).2.2 | (with_reducible refine Kd.C_alloc ?_ _) | (with_reducible refine Kd.C_drewN ?_ _) | (with_reducible refine Kd.C_drew ?_)))
                    (case side2 => exact (Kd.V_reads' HO_12.out).2.1)
                    rintro e w73 ⟨v149, rfl, ho0, hb⟩
                    have hbK := Aside0.mk hb
                    have n0_ := Aside0.mk (Kd.V_below (by (with_reducible repeat (first | apply Kd.V_alloc | apply Kd.V_drewN | apply Kd.V_drew)); exact HO_12.out) hb)
                    have n1_ := Aside0.mk (Kd.V_below (by (with_reducible repeat (first | apply Kd.V_alloc | apply Kd.V_drewN | apply Kd.V_drew)); exact HO132.out) hb)
                    have n2_ := Aside0.mk (Kd.V_below (by (with_reducible repeat (first | apply Kd.V_alloc | apply Kd.V_drewN | apply Kd.V_drew)); exact HO135.out) hb)
                    have n3_ := Aside0.mk (Kd.V_below (by (with_reducible repeat (first | apply Kd.V_alloc | apply Kd.V_drewN | apply Kd.V_drew)); exact HO138.out) hb)
                    have n4_ := Aside0.mk (Kd.V_below (by (with_reducible repeat (first | apply Kd.V_alloc | apply Kd.V_drewN | apply Kd.V_drew)); exact HO142.out) hb)
                    have n5_ := Aside0.mk (Kd.V_below (by (with_reducible repeat (first | apply Kd.V_alloc | apply Kd.V_drewN | apply Kd.V_drew)); exact HO146.out) hb)
                    have n6_ := Aside0.mk (Kd.V_lower (Kd.V_mono (ok' := fun k_ => True) ho0 (fun k_ hk_ => trivial)) (below_size (by repeat (first | (with_reducible first | exact HB.out | apply below_alloc | apply pw_below_drewN | apply below_drew1) | exact HB.out))))
                    have n7_ := Aside0.mk (below_step (by repeat (first | (with_reducible first | exact HB.out | apply below_alloc | apply pw_below_drewN | apply below_drew1) | exact HB.out)) hb)
                    clear HO_12
                    clear HO132
                    clear HO135
                    clear HO138
                    clear HO142
                    clear HO146
                    clear HB
                    have HO_12 := n0_
                    have HO132 := n1_
                    have HO135 := n2_
                    have HO138 := n3_
                    have HO142 := n4_
                    have HO146 := n5_
                    have HO150 := n6_
                    have HB := n7_
                    clear n0_ n1_ n2_ n3_ n4_ n5_ n6_ n7_
                    (try clear hb)
                    (try clear hb2)
                    (try clear hk)
                    (try clear hi)
                    (try clear ho0)
                    have hcv74 := V_string (P := Try.prog) Try.underlying23 Try.underlying5 Try.underlying9 HO150.out
                    have hcv75 := V_string (P := Try.prog) Try.underlying23 Try.underlying5 Try.underlying9 HO138.out
                    have hcv76 := V_string (P := Try.prog) Try.underlying23 Try.underlying5 Try.underlying9 HO142.out
                    have hcv77 := V_string (P := Try.prog) Try.underlying23 Try.underlying5 Try.underlying9 HO146.out
                    refine hK.out _ _ hbK.out ?_
                    clear hK K hbK
                    refine norm_ (a' := ?_) ?_ ?_
                    rotate_left
                    · (try simp only [Act.put, List.setIfInBounds_toArray, List.set_cons_zero, List.set_cons_succ, i64_w, i32_w])
                      rfl
                    refine readB_ (i := 3) (N := some 142) (v := ?_) (a' := ?_) #[true, true, true, true, true, true, false, false, false, false, false, false, false, false] rfl rfl (by kernel_rfl) (fun _ _ _ h => h) (Or.inl ⟨by rfl, ?_⟩) ?_ ?_
                    rotate_left
                    · intro w' s0
                      first | (have hq_ := V_string (P := Try.prog) Try.underlying23 Try.underlying5 Try.underlying9 (Kd.V_below HO138.out s0); refine (conv_run rfl hq_ (by rfl)).trans ?_; with_reducible rfl) | (have hq_ := V_string (P := Try.prog) Try.underlying23 Try.underlying5 Try.underlying9 (Kd.V_below HO150.out s0); refine (conv_run rfl hq_ (by rfl)).trans ?_; with_reducible rfl) | (have hq_ := V_string (P := Try.prog) Try.underlying23 Try.underlying5 Try.underlying9 (Kd.V_below HO142.out s0); refine (conv_run rfl hq_ (by rfl)).trans ?_; with_reducible rfl) | (have hq_ := V_string (P := Try.prog) Try.underlying23 Try.underlying5 Try.underlying9 (Kd.V_below HO146.out s0); refine (conv_run rfl hq_ (by rfl)).trans ?_; with_reducible rfl)
                    rotate_left
                    · simp only [Act.put, List.setIfInBounds_toArray, List.set_cons_zero, List.set_cons_succ, i64_w, i32_w]
                      rfl
                    refine pure_ (i := 6) (N := some 145) (v := ?_) (a' := ?_) #[true, true, true, true, true, true, true, false, false, false, false, false, false, false] rfl rfl (by kernel_rfl) (fun _ _ _ h => h) (Or.inl ⟨by rfl, ?_⟩) ?_ ?_
                    rotate_left
                    · intro w' 
                      go_simp
                      with_reducible rfl
                    rotate_left
                    · simp only [Act.put, List.setIfInBounds_toArray, List.set_cons_zero, List.set_cons_succ, i64_w, i32_w]
                      rfl
                    refine pure_ (i := 7) (N := some 146) (v := ?_) (a' := ?_) #[true, true, true, true, true, true, true, true, false, false, false, false, false, false] rfl rfl (by kernel_rfl) (fun _ _ _ h => h) (Or.inl ⟨by rfl, ?_⟩) ?_ ?_
                    rotate_left
                    · intro w' 
                      go_simp
                      with_reducible rfl
                    rotate_left
                    · simp only [Act.put, List.setIfInBounds_toArray, List.set_cons_zero, List.set_cons_succ, i64_w, i32_w]
                      rfl
                    refine pure_ (i := 8) (N := some 147) (v := ?_) (a' := ?_) #[true, true, true, true, true, true, true, true, true, false, false, false, false, false] rfl rfl (by kernel_rfl) (fun _ _ _ h => h) (Or.inl ⟨by rfl, ?_⟩) ?_ ?_
                    rotate_left
                    · intro w' 
                      go_simp
                      with_reducible rfl
                    rotate_left
                    · simp only [Act.put, List.setIfInBounds_toArray, List.set_cons_zero, List.set_cons_succ, i64_w, i32_w]
                      rfl
                    refine pure_ (i := 10) (N := some 149) (v := ?_) (a' := ?_) #[true, true, true, true, true, true, true, true, true, false, true, false, false, false] rfl rfl (by kernel_rfl) (fun _ _ _ h => h) (Or.inl ⟨by rfl, ?_⟩) ?_ ?_
                    rotate_left
                    · intro w' 
                      go_simp
                      with_reducible rfl
                    rotate_left
                    · simp only [Act.put, List.setIfInBounds_toArray, List.set_cons_zero, List.set_cons_succ, i64_w, i32_w]
                      rfl
                    refine readB_ (i := 9) (N := some 148) (v := ?_) (a' := ?_) #[true, true, true, true, true, true, true, true, true, true, true, false, false, false] rfl rfl (by kernel_rfl) (fun _ _ _ h => h) (Or.inl ⟨by rfl, ?_⟩) ?_ ?_
                    rotate_left
                    · intro w' s0
                      first | (have hq_ := V_string (P := Try.prog) Try.underlying23 Try.underlying5 Try.underlying9 (Kd.V_below HO142.out s0); refine (conv_run rfl hq_ (by rfl)).trans ?_; with_reducible rfl) | (have hq_ := V_string (P := Try.prog) Try.underlying23 Try.underlying5 Try.underlying9 (Kd.V_below HO150.out s0); refine (conv_run rfl hq_ (by rfl)).trans ?_; with_reducible rfl) | (have hq_ := V_string (P := Try.prog) Try.underlying23 Try.underlying5 Try.underlying9 (Kd.V_below HO138.out s0); refine (conv_run rfl hq_ (by rfl)).trans ?_; with_reducible rfl) | (have hq_ := V_string (P := Try.prog) Try.underlying23 Try.underlying5 Try.underlying9 (Kd.V_below HO146.out s0); refine (conv_run rfl hq_ (by rfl)).trans ?_; with_reducible rfl)
                    rotate_left
                    · simp only [Act.put, List.setIfInBounds_toArray, List.set_cons_zero, List.set_cons_succ, i64_w, i32_w]
                      rfl
                    refine readB_ (i := 11) (N := some 150) (v := ?_) (a' := ?_) #[true, true, true, true, true, true, true, true, true, true, true, true, false, false] rfl rfl (by kernel_rfl) (fun _ _ _ h => h) (Or.inl ⟨by rfl, ?_⟩) ?_ ?_
                    rotate_left
                    · intro w' s0
                      first | (have hq_ := V_string (P := Try.prog) Try.underlying23 Try.underlying5 Try.underlying9 (Kd.V_below HO146.out s0); refine (conv_run rfl hq_ (by rfl)).trans ?_; with_reducible rfl) | (have hq_ := V_string (P := Try.prog) Try.underlying23 Try.underlying5 Try.underlying9 (Kd.V_below HO150.out s0); refine (conv_run rfl hq_ (by rfl)).trans ?_; with_reducible rfl) | (have hq_ := V_string (P := Try.prog) Try.underlying23 Try.underlying5 Try.underlying9 (Kd.V_below HO138.out s0); refine (conv_run rfl hq_ (by rfl)).trans ?_; with_reducible rfl) | (have hq_ := V_string (P := Try.prog) Try.underlying23 Try.underlying5 Try.underlying9 (Kd.V_below HO142.out s0); refine (conv_run rfl hq_ (by rfl)).trans ?_; with_reducible rfl)
                    rotate_left
                    · simp only [Act.put, List.setIfInBounds_toArray, List.set_cons_zero, List.set_cons_succ, i64_w, i32_w]
                      rfl
                    refine pure_ (i := 12) (N := some 151) (v := ?_) (a' := ?_) #[true, true, true, true, true, true, true, true, true, true, true, true, true, false] rfl rfl (by kernel_rfl) (fun _ _ _ h => h) (Or.inl ⟨by rfl, ?_⟩) ?_ ?_
                    rotate_left
                    · intro w' 
                      go_simp
                      with_reducible rfl
                    rotate_left
                    · simp only [Act.put, List.setIfInBounds_toArray, List.set_cons_zero, List.set_cons_succ, i64_w, i32_w]
                      rfl
                    refine pure_ (i := 13) (N := some 152) (v := ?_) (a' := ?_) #[true, true, true, true, true, true, true, true, true, true, true, true, true, true] rfl rfl (by kernel_rfl) (fun _ _ _ h => h) (Or.inl ⟨by rfl, ?_⟩) ?_ ?_
                    rotate_left
                    · intro w' 
                      go_simp
                      with_reducible rfl
                    rotate_left
                    · simp only [Act.put, List.setIfInBounds_toArray, List.set_cons_zero, List.set_cons_succ, i64_w, i32_w]
                      rfl
                    refine done_ (by kernel_rfl) ?_
                    try go_wp2_with (fail)
                    repeat (go_quiet (fail); try go_wp2_with (fail))
                    go_meet
                    case rel => exact ⟨_, (((strOfNums t140).toList != (strOfNums t144).toList)), (by first | rfl | (simp; done) | (simp [*]; done)), H', ⟨by have := HJ19.out; first | omega | exact Nat.le_refl _⟩, ⟨by (with_reducible repeat (first | apply Kd.V_alloc | apply Kd.V_drewN | apply Kd.V_drew)); exact HO132.out⟩, ⟨by repeat (first | (with_reducible first | exact HB.out | apply below_alloc | apply pw_below_drewN | apply below_drew1) | exact HB.out)⟩⟩
                  · rw [if_neg c72] at H
                    have c72b0 : ((strOfNums t148).toList == (strOfNums t136).toList) = false := beq_eq_false_iff_ne.mpr c72
                    have c72b1 : ((strOfNums t148).toList != (strOfNums t136).toList) = true := bne_iff_ne.mpr c72
                    (first | rw [c72b0] | (simp only [i64_w, i32_w]; rw [c72b0]) | skip)
                    exact absurd H (by cases kj19 <;> simp [braidworklaw02_VectorSpace.j1])
                case rest =>
                  clear HC63
                  try clear c1
                  try clear c2
                  try clear p2
                  try clear c3
                  try clear hcv3
                  try clear hcv4
                  try clear c5
                  try clear hcv5
                  try clear c7
                  try clear hcv7
                  try clear c8
                  try clear c8b0
                  try clear c8b1
                  try clear hcv8
                  try clear c9
                  try clear c9b0
                  try clear c9b1
                  try clear c10
                  try clear c10b0
                  try clear c11
                  try clear c11b0
                  try clear c11b1
                  try clear c12
                  try clear c12b0
                  try clear c13
                  try clear c13b0
                  try clear c13b1
                  try clear c32
                  try clear c32b0
                  try clear c32b1
                  try clear c33
                  try clear c33b0
                  try clear c33b1
                  try clear c34
                  try clear c34b0
                  try clear c34b1
                  try clear c36
                  try clear hcv37
                  try clear hcv38
                  try clear hcv39
                  try clear hcv40
                  try clear hcv42
                  try clear hcv43
                  try clear hcv44
                  try clear hcv45
                  try clear hcv47
                  try clear hcv48
                  try clear hcv49
                  try clear hcv50
                  try clear hcv51
                  try clear hcv52
                  try clear hcv53
                  try clear hcv54
                  try clear hcv55
                  try clear hcv56
                  try clear c57
                  try clear c72
                  try clear c72b0
                  try clear c72b1
                  try clear hcv74
                  try clear hcv75
                  try clear hcv76
                  try clear hcv77
                  try clear hcv79
                  try clear hcv80
                  try clear p2
                  obtain ⟨kq, x152_62, rfl, HA, HJ62, HO_24, HB⟩ := hcut
                  cases kq with
                  | zero => exact absurd HA.out (by simp [braidworklaw02_VectorSpace.j1])
                  | succ kj62 =>
                    have H := HA.out
                    clear HA
                    simp only [braidworklaw02_VectorSpace.j1] at H
                    by_cases c81 : x152_62 = true
                    · subst c81
                      have H1 : (none) = some r := by rw [if_pos rfl] at H; exact H
                      clear H
                      have H := H1
                      clear H1
                      exact absurd H (by simp)
                    · replace c81 := Bool.eq_false_iff.mpr c81
                      subst c81
                      have H1 : ((vector_Scale.f yc21 a4).bind fun t151 => ((vector_Add.f t130 t151).bind fun bt154 => ((field_Add.f a3 a4).bind fun t158 => ((vector_Scale.f yc21 t158).bind fun t159 => (if (strOfNums t159).toList = (strOfNums bt154.1).toList then ((vector_Scale.f t151 a3).bind fun t162 => ((field_Mul.f a3 a4).bind fun t165 => ((vector_Scale.f yc21 t165).bind fun t166 => (if (strOfNums t162).toList = (strOfNums t166).toList then ((vector_Scale.f yc21 1).bind fun t169 => (if (strOfNums t169).toList = (strOfNums yc21).toList then ((vector_Scale.f yc21 0).bind fun t172 => ((vector_IsZero.f t172).bind fun t175 => (braidworklaw02_VectorSpace.j2 kj62 yc21 a3 t130 (!t175)))) else (braidworklaw02_VectorSpace.j2 kj62 yc21 a3 t130 true))) else (braidworklaw02_VectorSpace.j2 kj62 yc21 a3 t130 true))))) else (braidworklaw02_VectorSpace.j2 kj62 yc21 a3 t130 true)))))) = some r := by rw [if_neg (show ¬ (false = true) by decide)] at H; exact H
                      clear H
                      have H := H1
                      clear H1
                      replace H := Option.bind_eq_some_iff.mp H
                      obtain ⟨t151, A820, H⟩ := H
                      replace H : ((vector_Add.f t130 t151).bind fun bt154 => ((field_Add.f a3 a4).bind fun t158 => ((vector_Scale.f yc21 t158).bind fun t159 => (if (strOfNums t159).toList = (strOfNums bt154.1).toList then ((vector_Scale.f t151 a3).bind fun t162 => ((field_Mul.f a3 a4).bind fun t165 => ((vector_Scale.f yc21 t165).bind fun t166 => (if (strOfNums t162).toList = (strOfNums t166).toList then ((vector_Scale.f yc21 1).bind fun t169 => (if (strOfNums t169).toList = (strOfNums yc21).toList then ((vector_Scale.f yc21 0).bind fun t172 => ((vector_IsZero.f t172).bind fun t175 => (braidworklaw02_VectorSpace.j2 kj62 yc21 a3 t130 (!t175)))) else (braidworklaw02_VectorSpace.j2 kj62 yc21 a3 t130 true))) else (braidworklaw02_VectorSpace.j2 kj62 yc21 a3 t130 true))))) else (braidworklaw02_VectorSpace.j2 kj62 yc21 a3 t130 true))))) = some r := H
                      have A82 := Aside0.mk A820
                      clear A820
                      replace H := Option.bind_eq_some_iff.mp H
                      obtain ⟨⟨t154, t157⟩, A830, H⟩ := H
                      replace H : ((field_Add.f a3 a4).bind fun t158 => ((vector_Scale.f yc21 t158).bind fun t159 => (if (strOfNums t159).toList = (strOfNums t154).toList then ((vector_Scale.f t151 a3).bind fun t162 => ((field_Mul.f a3 a4).bind fun t165 => ((vector_Scale.f yc21 t165).bind fun t166 => (if (strOfNums t162).toList = (strOfNums t166).toList then ((vector_Scale.f yc21 1).bind fun t169 => (if (strOfNums t169).toList = (strOfNums yc21).toList then ((vector_Scale.f yc21 0).bind fun t172 => ((vector_IsZero.f t172).bind fun t175 => (braidworklaw02_VectorSpace.j2 kj62 yc21 a3 t130 (!t175)))) else (braidworklaw02_VectorSpace.j2 kj62 yc21 a3 t130 true))) else (braidworklaw02_VectorSpace.j2 kj62 yc21 a3 t130 true))))) else (braidworklaw02_VectorSpace.j2 kj62 yc21 a3 t130 true)))) = some r := H
                      have A83 := Aside0.mk A830
                      clear A830
                      have HC84 := Aside0.mk H
                      clear H
                      go_upto_region 19 with (first | (go_at_call 19; (with_reducible refine (vector_Scale.callsV _ _ yc21 a4 t151 _ ?side1 ?side2 A82.out).mono ?_); (case side1 => repeat (first | exact (Kd.C_below HR102.out HB.out) | (with_reducible refine Kd.C_alloc ?_ _) | (with_reducible refine Kd.C_drewN ?_ _) | (with_reducible refine Kd.C_drew ?_))); (case side2 => exact HC102.out); rintro e w85 ⟨v152, rfl, ho0, hb⟩; have n0_ := Aside0.mk (Kd.V_below (by (with_reducible repeat (first | apply Kd.V_alloc | apply Kd.V_drewN | apply Kd.V_drew)); exact HO_24.out) hb); have n1_ := Aside0.mk (Kd.V_lower (Kd.V_mono (ok' := fun k_ => True) ho0 (fun k_ hk_ => trivial)) (below_size (by repeat (first | (with_reducible first | exact HB.out | apply below_alloc | apply pw_below_drewN | apply below_drew1) | exact HB.out)))); have n2_ := Aside0.mk (below_step (by repeat (first | (with_reducible first | exact HB.out | apply below_alloc | apply pw_below_drewN | apply below_drew1) | exact HB.out)) hb); clear HO_24; clear HB; have HO_24 := n0_; have HO153 := n1_; have HB := n2_; clear n0_ n1_ n2_; (try clear hb); (try clear hb2); (try clear hk); (try clear hi); (try clear ho0); obtain ⟨Ao86, co86, eo86⟩ := Kd.V_slice HO153.out; subst eo86) | (go_at_call 14; (with_reducible refine (vector_Add.callsV _ _ t130 _ _ t151 t154 t157 _ ?side1 ?side2 ?side3 ?side4 A83.out).mono ?_); (case side1 => repeat (first | exact (Kd.V_reads' HO_24.out).2.2 | (with_reducible refine Kd.C_alloc ?_ _) | (with_reducible refine Kd.C_drewN ?_ _) | (with_reducible refine Kd.C_drew ?_))); (case side2 => exact (Kd.V_reads' HO_24.out).2.1); (case side3 => repeat (first | exact (Kd.V_reads' HO153.out).2.2 | (with_reducible refine Kd.C_alloc ?_ _) | (with_reducible refine Kd.C_drewN ?_ _) | (with_reducible refine Kd.C_drew ?_))); (case side4 => exact (Kd.V_reads' HO153.out).2.1); rintro e w87 ⟨v155, rfl, ho0, hb⟩; have n0_ := Aside0.mk (Kd.V_below (by (with_reducible repeat (first | apply Kd.V_alloc | apply Kd.V_drewN | apply Kd.V_drew)); exact HO_24.out) hb); have n1_ := Aside0.mk (Kd.V_below (by (with_reducible repeat (first | apply Kd.V_alloc | apply Kd.V_drewN | apply Kd.V_drew)); exact HO153.out) hb); have n2_ := Aside0.mk (Kd.V_lower (Kd.V_mono (ok' := fun k_ => True) ho0 (fun k_ hk_ => trivial)) (below_size (by repeat (first | (with_reducible first | exact HB.out | apply below_alloc | apply pw_below_drewN | apply below_drew1) | exact HB.out)))); have n3_ := Aside0.mk (below_step (by repeat (first | (with_reducible first | exact HB.out | apply below_alloc | apply pw_below_drewN | apply below_drew1) | exact HB.out)) hb); clear HO_24; clear HO153; clear HB; have HO_24 := n0_; have HO153 := n1_; have HO156 := n2_; have HB := n3_; clear n0_ n1_ n2_ n3_; (try clear hb); (try clear hb2); (try clear hk); (try clear hi); (try clear ho0)))
                      repeat (go_quiet (first | (go_at_call 19; (with_reducible refine (vector_Scale.callsV _ _ yc21 a4 t151 _ ?side1 ?side2 A82.out).mono ?_); (case side1 => repeat (first | exact (Kd.C_below HR102.out HB.out) | (with_reducible refine Kd.C_alloc ?_ _) | (with_reducible refine Kd.C_drewN ?_ _) | (with_reducible refine Kd.C_drew ?_))); (case side2 => exact HC102.out); rintro e w85 ⟨v152, rfl, ho0, hb⟩; have n0_ := Aside0.mk (Kd.V_below (by (with_reducible repeat (first | apply Kd.V_alloc | apply Kd.V_drewN | apply Kd.V_drew)); exact HO_24.out) hb); have n1_ := Aside0.mk (Kd.V_lower (Kd.V_mono (ok' := fun k_ => True) ho0 (fun k_ hk_ => trivial)) (below_size (by repeat (first | (with_reducible first | exact HB.out | apply below_alloc | apply pw_below_drewN | apply below_drew1) | exact HB.out)))); have n2_ := Aside0.mk (below_step (by repeat (first | (with_reducible first | exact HB.out | apply below_alloc | apply pw_below_drewN | apply below_drew1) | exact HB.out)) hb); clear HO_24; clear HB; have HO_24 := n0_; have HO153 := n1_; have HB := n2_; clear n0_ n1_ n2_; (try clear hb); (try clear hb2); (try clear hk); (try clear hi); (try clear ho0); obtain ⟨Ao86, co86, eo86⟩ := Kd.V_slice HO153.out; subst eo86) | (go_at_call 14; (with_reducible refine (vector_Add.callsV _ _ t130 _ _ t151 t154 t157 _ ?side1 ?side2 ?side3 ?side4 A83.out).mono ?_); (case side1 => repeat (first | exact (Kd.V_reads' HO_24.out).2.2 | (with_reducible refine Kd.C_alloc ?_ _) | (with_reducible refine Kd.C_drewN ?_ _) | (with_reducible refine Kd.C_drew ?_))); (case side2 => exact (Kd.V_reads' HO_24.out).2.1); (case side3 => repeat (first | exact (Kd.V_reads' HO153.out).2.2 | (with_reducible refine Kd.C_alloc ?_ _) | (with_reducible refine Kd.C_drewN ?_ _) | (with_reducible refine Kd.C_drew ?_))); (case side4 => exact (Kd.V_reads' HO153.out).2.1); rintro e w87 ⟨v155, rfl, ho0, hb⟩; have n0_ := Aside0.mk (Kd.V_below (by (with_reducible repeat (first | apply Kd.V_alloc | apply Kd.V_drewN | apply Kd.V_drew)); exact HO_24.out) hb); have n1_ := Aside0.mk (Kd.V_below (by (with_reducible repeat (first | apply Kd.V_alloc | apply Kd.V_drewN | apply Kd.V_drew)); exact HO153.out) hb); have n2_ := Aside0.mk (Kd.V_lower (Kd.V_mono (ok' := fun k_ => True) ho0 (fun k_ hk_ => trivial)) (below_size (by repeat (first | (with_reducible first | exact HB.out | apply below_alloc | apply pw_below_drewN | apply below_drew1) | exact HB.out)))); have n3_ := Aside0.mk (below_step (by repeat (first | (with_reducible first | exact HB.out | apply below_alloc | apply pw_below_drewN | apply below_drew1) | exact HB.out)) hb); clear HO_24; clear HO153; clear HB; have HO_24 := n0_; have HO153 := n1_; have HO156 := n2_; have HB := n3_; clear n0_ n1_ n2_ n3_; (try clear hb); (try clear hb2); (try clear hk); (try clear hi); (try clear ho0))); go_upto_region 19 with (first | (go_at_call 19; (with_reducible refine (vector_Scale.callsV _ _ yc21 a4 t151 _ ?side1 ?side2 A82.out).mono ?_); (case side1 => repeat (first | exact (Kd.C_below HR102.out HB.out) | (with_reducible refine Kd.C_alloc ?_ _) | (with_reducible refine Kd.C_drewN ?_ _) | (with_reducible refine Kd.C_drew ?_))); (case side2 => exact HC102.out); rintro e w85 ⟨v152, rfl, ho0, hb⟩; have n0_ := Aside0.mk (Kd.V_below (by (with_reducible repeat (first | apply Kd.V_alloc | apply Kd.V_drewN | apply Kd.V_drew)); exact HO_24.out) hb); have n1_ := Aside0.mk (Kd.V_lower (Kd.V_mono (ok' := fun k_ => True) ho0 (fun k_ hk_ => trivial)) (below_size (by repeat (first | (with_reducible first | exact HB.out | apply below_alloc | apply pw_below_drewN | apply below_drew1) | exact HB.out)))); have n2_ := Aside0.mk (below_step (by repeat (first | (with_reducible first | exact HB.out | apply below_alloc | apply pw_below_drewN | apply below_drew1) | exact HB.out)) hb); clear HO_24; clear HB; have HO_24 := n0_; have HO153 := n1_; have HB := n2_; clear n0_ n1_ n2_; (try clear hb); (try clear hb2); (try clear hk); (try clear hi); (try clear ho0); obtain ⟨Ao86, co86, eo86⟩ := Kd.V_slice HO153.out; subst eo86) | (go_at_call 14; (with_reducible refine (vector_Add.callsV _ _ t130 _ _ t151 t154 t157 _ ?side1 ?side2 ?side3 ?side4 A83.out).mono ?_); (case side1 => repeat (first | exact (Kd.V_reads' HO_24.out).2.2 | (with_reducible refine Kd.C_alloc ?_ _) | (with_reducible refine Kd.C_drewN ?_ _) | (with_reducible refine Kd.C_drew ?_))); (case side2 => exact (Kd.V_reads' HO_24.out).2.1); (case side3 => repeat (first | exact (Kd.V_reads' HO153.out).2.2 | (with_reducible refine Kd.C_alloc ?_ _) | (with_reducible refine Kd.C_drewN ?_ _) | (with_reducible refine Kd.C_drew ?_))); (case side4 => exact (Kd.V_reads' HO153.out).2.1); rintro e w87 ⟨v155, rfl, ho0, hb⟩; have n0_ := Aside0.mk (Kd.V_below (by (with_reducible repeat (first | apply Kd.V_alloc | apply Kd.V_drewN | apply Kd.V_drew)); exact HO_24.out) hb); have n1_ := Aside0.mk (Kd.V_below (by (with_reducible repeat (first | apply Kd.V_alloc | apply Kd.V_drewN | apply Kd.V_drew)); exact HO153.out) hb); have n2_ := Aside0.mk (Kd.V_lower (Kd.V_mono (ok' := fun k_ => True) ho0 (fun k_ hk_ => trivial)) (below_size (by repeat (first | (with_reducible first | exact HB.out | apply below_alloc | apply pw_below_drewN | apply below_drew1) | exact HB.out)))); have n3_ := Aside0.mk (below_step (by repeat (first | (with_reducible first | exact HB.out | apply below_alloc | apply pw_below_drewN | apply below_drew1) | exact HB.out)) hb); clear HO_24; clear HO153; clear HB; have HO_24 := n0_; have HO153 := n1_; have HO156 := n2_; have HB := n3_; clear n0_ n1_ n2_ n3_; (try clear hb); (try clear hb2); (try clear hk); (try clear hi); (try clear ho0))))
                      (try simp only [Act.put, List.setIfInBounds_toArray, List.set_cons_zero, List.set_cons_succ])
                      go_cut [197] (fun v197 wc => ∃ (kq : Nat) (x197_83 : Bool), v197 = .bool x197_83 ∧ Aside0 (braidworklaw02_VectorSpace.j2 kq yc21 a3 t130 x197_83 = some r) ∧ Aside0 (kq ≤ kj62) ∧ Aside0 (Kd.V (Kd.int .u8) 5 wc w.heap.size (fun _ => True) (.slice Ao66 t130.length co66) t130) ∧ Aside0 (Below w.heap.size w wc))
                      case first =>
                        have H := HC84.out
                        clear HC84
                        replace H := Option.bind_eq_some_iff.mp H
                        obtain ⟨t158, A880, H⟩ := H
                        replace H : ((vector_Scale.f yc21 t158).bind fun t159 => (if (strOfNums t159).toList = (strOfNums t154).toList then ((vector_Scale.f t151 a3).bind fun t162 => ((field_Mul.f a3 a4).bind fun t165 => ((vector_Scale.f yc21 t165).bind fun t166 => (if (strOfNums t162).toList = (strOfNums t166).toList then ((vector_Scale.f yc21 1).bind fun t169 => (if (strOfNums t169).toList = (strOfNums yc21).toList then ((vector_Scale.f yc21 0).bind fun t172 => ((vector_IsZero.f t172).bind fun t175 => (braidworklaw02_VectorSpace.j2 kj62 yc21 a3 t130 (!t175)))) else (braidworklaw02_VectorSpace.j2 kj62 yc21 a3 t130 true))) else (braidworklaw02_VectorSpace.j2 kj62 yc21 a3 t130 true))))) else (braidworklaw02_VectorSpace.j2 kj62 yc21 a3 t130 true))) = some r := H
                        have A88 := Aside0.mk A880
                        clear A880
                        replace H := Option.bind_eq_some_iff.mp H
                        obtain ⟨t159, A890, H⟩ := H
                        replace H : (if (strOfNums t159).toList = (strOfNums t154).toList then ((vector_Scale.f t151 a3).bind fun t162 => ((field_Mul.f a3 a4).bind fun t165 => ((vector_Scale.f yc21 t165).bind fun t166 => (if (strOfNums t162).toList = (strOfNums t166).toList then ((vector_Scale.f yc21 1).bind fun t169 => (if (strOfNums t169).toList = (strOfNums yc21).toList then ((vector_Scale.f yc21 0).bind fun t172 => ((vector_IsZero.f t172).bind fun t175 => (braidworklaw02_VectorSpace.j2 kj62 yc21 a3 t130 (!t175)))) else (braidworklaw02_VectorSpace.j2 kj62 yc21 a3 t130 true))) else (braidworklaw02_VectorSpace.j2 kj62 yc21 a3 t130 true))))) else (braidworklaw02_VectorSpace.j2 kj62 yc21 a3 t130 true)) = some r := H
                        have A89 := Aside0.mk A890
                        clear A890
                        by_cases c90 : (strOfNums t159).toList = (strOfNums t154).toList
                        · rw [if_pos c90] at H
                          have c90b0 : ((strOfNums t159).toList == (strOfNums t154).toList) = true := beq_iff_eq.mpr c90
                          have c90b1 : ((strOfNums t159).toList != (strOfNums t154).toList) = false := bne_eq_false_iff_eq.mpr c90
                          clear c90
                          (first | rw [c90b0] | (simp only [i64_w, i32_w]; rw [c90b0]) | skip)
                          replace H := Option.bind_eq_some_iff.mp H
                          obtain ⟨t162, A910, H⟩ := H
                          replace H : ((field_Mul.f a3 a4).bind fun t165 => ((vector_Scale.f yc21 t165).bind fun t166 => (if (strOfNums t162).toList = (strOfNums t166).toList then ((vector_Scale.f yc21 1).bind fun t169 => (if (strOfNums t169).toList = (strOfNums yc21).toList then ((vector_Scale.f yc21 0).bind fun t172 => ((vector_IsZero.f t172).bind fun t175 => (braidworklaw02_VectorSpace.j2 kj62 yc21 a3 t130 (!t175)))) else (braidworklaw02_VectorSpace.j2 kj62 yc21 a3 t130 true))) else (braidworklaw02_VectorSpace.j2 kj62 yc21 a3 t130 true)))) = some r := H
                          have A91 := Aside0.mk A910
                          clear A910
                          replace H := Option.bind_eq_some_iff.mp H
                          obtain ⟨t165, A920, H⟩ := H
                          replace H : ((vector_Scale.f yc21 t165).bind fun t166 => (if (strOfNums t162).toList = (strOfNums t166).toList then ((vector_Scale.f yc21 1).bind fun t169 => (if (strOfNums t169).toList = (strOfNums yc21).toList then ((vector_Scale.f yc21 0).bind fun t172 => ((vector_IsZero.f t172).bind fun t175 => (braidworklaw02_VectorSpace.j2 kj62 yc21 a3 t130 (!t175)))) else (braidworklaw02_VectorSpace.j2 kj62 yc21 a3 t130 true))) else (braidworklaw02_VectorSpace.j2 kj62 yc21 a3 t130 true))) = some r := H
                          have A92 := Aside0.mk A920
                          clear A920
                          replace H := Option.bind_eq_some_iff.mp H
                          obtain ⟨t166, A930, H⟩ := H
                          replace H : (if (strOfNums t162).toList = (strOfNums t166).toList then ((vector_Scale.f yc21 1).bind fun t169 => (if (strOfNums t169).toList = (strOfNums yc21).toList then ((vector_Scale.f yc21 0).bind fun t172 => ((vector_IsZero.f t172).bind fun t175 => (braidworklaw02_VectorSpace.j2 kj62 yc21 a3 t130 (!t175)))) else (braidworklaw02_VectorSpace.j2 kj62 yc21 a3 t130 true))) else (braidworklaw02_VectorSpace.j2 kj62 yc21 a3 t130 true)) = some r := H
                          have A93 := Aside0.mk A930
                          clear A930
                          by_cases c94 : (strOfNums t162).toList = (strOfNums t166).toList
                          · rw [if_pos c94] at H
                            have c94b0 : ((strOfNums t162).toList == (strOfNums t166).toList) = true := beq_iff_eq.mpr c94
                            have c94b1 : ((strOfNums t162).toList != (strOfNums t166).toList) = false := bne_eq_false_iff_eq.mpr c94
                            clear c94
                            replace H := Option.bind_eq_some_iff.mp H
                            obtain ⟨t169, A950, H⟩ := H
                            replace H : (if (strOfNums t169).toList = (strOfNums yc21).toList then ((vector_Scale.f yc21 0).bind fun t172 => ((vector_IsZero.f t172).bind fun t175 => (braidworklaw02_VectorSpace.j2 kj62 yc21 a3 t130 (!t175)))) else (braidworklaw02_VectorSpace.j2 kj62 yc21 a3 t130 true)) = some r := H
                            have A95 := Aside0.mk A950
                            clear A950
                            by_cases c96 : (strOfNums t169).toList = (strOfNums yc21).toList
                            · rw [if_pos c96] at H
                              have c96b0 : ((strOfNums t169).toList == (strOfNums yc21).toList) = true := beq_iff_eq.mpr c96
                              have c96b1 : ((strOfNums t169).toList != (strOfNums yc21).toList) = false := bne_eq_false_iff_eq.mpr c96
                              clear c96
                              replace H := Option.bind_eq_some_iff.mp H
                              obtain ⟨t172, A970, H⟩ := H
                              replace H : ((vector_IsZero.f t172).bind fun t175 => (braidworklaw02_VectorSpace.j2 kj62 yc21 a3 t130 (!t175))) = some r := H
                              have A97 := Aside0.mk A970
                              clear A970
                              replace H := Option.bind_eq_some_iff.mp H
                              obtain ⟨t175, A980, H⟩ := H
                              replace H : (braidworklaw02_VectorSpace.j2 kj62 yc21 a3 t130 (!t175)) = some r := H
                              have A98 := Aside0.mk A980
                              clear A980
                              have H' := Aside0.mk H
                              clear H
                              try go_upto_region 19 with (fail)
                              refine startG_ (n := 36) #[false, false, false, false, false, false, false, false, false, false, false, false, false, false, false, false, false, false, false, false, false, false, false, false, false, false, false, false, false, false, false, false, false, false, false, false] (by kernel_rfl) rfl rfl (fun wD hbD => ?_)
                              have n_ := Aside0.mk (Kd.V_below HO_24.out hbD)
                              clear HO_24
                              have HO_24 := n_
                              clear n_
                              have n_ := Aside0.mk (Kd.V_below HO153.out hbD)
                              clear HO153
                              have HO153 := n_
                              clear n_
                              have n_ := Aside0.mk (Kd.V_below HO156.out hbD)
                              clear HO156
                              have HO156 := n_
                              clear n_
                              have n_ := Aside0.mk (below_step HB.out hbD)
                              clear HB
                              have HB := n_
                              clear n_
                              clear hbD
                              refine pure_ (i := 0) (N := some 162) (v := ?_) (a' := ?_) #[true, false, false, false, false, false, false, false, false, false, false, false, false, false, false, false, false, false, false, false, false, false, false, false, false, false, false, false, false, false, false, false, false, false, false, false] rfl rfl (by kernel_rfl) (fun _ _ _ h => h) (Or.inl ⟨by rfl, ?_⟩) ?_ ?_
                              rotate_left
                              · intro w' 
                                go_simp
                                with_reducible rfl
                              rotate_left
                              · simp only [Act.put, List.setIfInBounds_toArray, List.set_cons_zero, List.set_cons_succ, i64_w, i32_w]
                                rfl
                              refine pure_ (i := 1) (N := some 163) (v := ?_) (a' := ?_) #[true, true, false, false, false, false, false, false, false, false, false, false, false, false, false, false, false, false, false, false, false, false, false, false, false, false, false, false, false, false, false, false, false, false, false, false] rfl rfl (by kernel_rfl) (fun _ _ _ h => h) (Or.inl ⟨by rfl, ?_⟩) ?_ ?_
                              rotate_left
                              · intro w' 
                                go_simp
                                with_reducible rfl
                              rotate_left
                              · simp only [Act.put, List.setIfInBounds_toArray, List.set_cons_zero, List.set_cons_succ, i64_w, i32_w]
                                rfl
                              refine pure_ (i := 2) (N := some 164) (v := ?_) (a' := ?_) #[true, true, true, false, false, false, false, false, false, false, false, false, false, false, false, false, false, false, false, false, false, false, false, false, false, false, false, false, false, false, false, false, false, false, false, false] rfl rfl (by kernel_rfl) (fun _ _ _ h => h) (Or.inl ⟨by rfl, ?_⟩) ?_ ?_
                              rotate_left
                              · intro w' 
                                go_simp
                                with_reducible rfl
                              rotate_left
                              · simp only [Act.put, List.setIfInBounds_toArray, List.set_cons_zero, List.set_cons_succ, i64_w, i32_w]
                                rfl
                              refine pure_ (i := 6) (N := some 168) (v := ?_) (a' := ?_) #[true, true, true, false, false, false, true, false, false, false, false, false, false, false, false, false, false, false, false, false, false, false, false, false, false, false, false, false, false, false, false, false, false, false, false, false] rfl rfl (by kernel_rfl) (fun _ _ _ h => h) (Or.inl ⟨by rfl, ?_⟩) ?_ ?_
                              rotate_left
                              · intro w' 
                                go_simp
                                with_reducible rfl
                              rotate_left
                              · simp only [Act.put, List.setIfInBounds_toArray, List.set_cons_zero, List.set_cons_succ, i64_w, i32_w]
                                rfl
                              refine readB_ (i := 7) (N := some 169) (v := ?_) (a' := ?_) #[true, true, true, false, false, false, true, true, false, false, false, false, false, false, false, false, false, false, false, false, false, false, false, false, false, false, false, false, false, false, false, false, false, false, false, false] rfl rfl (by kernel_rfl) (fun _ _ _ h => h) (Or.inl ⟨by rfl, ?_⟩) ?_ ?_
                              rotate_left
                              · intro w' s0
                                first | (have hq_ := V_string (P := Try.prog) Try.underlying23 Try.underlying5 Try.underlying9 (Kd.V_below HO161.out s0); refine (conv_run rfl hq_ (by rfl)).trans ?_; with_reducible rfl) | (have hq_ := V_string (P := Try.prog) Try.underlying23 Try.underlying5 Try.underlying9 (Kd.V_below HO156.out s0); refine (conv_run rfl hq_ (by rfl)).trans ?_; with_reducible rfl) | (have hq_ := V_string (P := Try.prog) Try.underlying23 Try.underlying5 Try.underlying9 (Kd.V_below HO164.out s0); refine (conv_run rfl hq_ (by rfl)).trans ?_; with_reducible rfl) | (have hq_ := V_string (P := Try.prog) Try.underlying23 Try.underlying5 Try.underlying9 (Kd.V_below HO168.out s0); refine (conv_run rfl hq_ (by rfl)).trans ?_; with_reducible rfl) | (have hq_ := V_string (P := Try.prog) Try.underlying23 Try.underlying5 Try.underlying9 (Kd.V_below HO171.out s0); refine (conv_run rfl hq_ (by rfl)).trans ?_; with_reducible rfl) | (have hq_ := Kd.C_string (P := Try.prog) (A := A0) (c := c0) Try.underlying23 Try.underlying5 Try.underlying9 (Kd.C_below (Kd.C_below HR102.out HB.out) s0); refine (conv_run rfl hq_ (by rfl)).trans ?_; with_reducible rfl)
                              rotate_left
                              · simp only [Act.put, List.setIfInBounds_toArray, List.set_cons_zero, List.set_cons_succ, i64_w, i32_w]
                                rfl
                              refine oneB_ (i := 3) (N := some 165) #[true, true, true, true, false, false, true, true, false, false, false, false, false, false, false, false, false, false, false, false, false, false, false, false, false, false, false, false, false, false, false, false, false, false, false, false] rfl rfl (by kernel_rfl) (fun K hK => ?_)
                              rw [if_pos (by rfl)]
                              go_simp
                              go_at_call 24
                              (with_reducible refine (field_Add.calls a3 a4 t158 _ A88.out).mono ?_)
                              rintro e wq ⟨rfl, hdq⟩
                              have hbK := Aside0.mk (drawn_below hdq)
                              clear hdq
                              have n_ := Aside0.mk (Kd.V_below HO_24.out hbK.out)
                              clear HO_24
                              have HO_24 := n_
                              clear n_
                              have n_ := Aside0.mk (Kd.V_below HO153.out hbK.out)
                              clear HO153
                              have HO153 := n_
                              clear n_
                              have n_ := Aside0.mk (Kd.V_below HO156.out hbK.out)
                              clear HO156
                              have HO156 := n_
                              clear n_
                              have n_ := Aside0.mk (below_step HB.out hbK.out)
                              clear HB
                              have HB := n_
                              clear n_
                              refine hK.out _ _ hbK.out ?_
                              clear hK K hbK
                              refine norm_ (a' := ?_) ?_ ?_
                              rotate_left
                              · (try simp only [Act.put, List.setIfInBounds_toArray, List.set_cons_zero, List.set_cons_succ, i64_w, i32_w])
                                rfl
                              refine oneB_ (i := 4) (N := some 166) #[true, true, true, true, true, false, true, true, false, false, false, false, false, false, false, false, false, false, false, false, false, false, false, false, false, false, false, false, false, false, false, false, false, false, false, false] rfl rfl (by kernel_rfl) (fun K hK => ?_)
                              rw [if_pos (by rfl)]
                              go_simp
                              go_at_call 19
                              (with_reducible refine (vector_Scale.callsV _ _ yc21 t158 t159 _ ?side1 ?side2 A89.out).mono ?_)
                              (case side1 => repeat (first | exact (Kd.C_below HR102.out (by repeat (first | (with_reducible first | exact HB.out | apply below_alloc | apply pw_below_drewN | apply below_drew1) | exact HB.out))) | (with_reducible refine Kd.C_alloc ?_ _) | (with_reducible refine Kd.C_drewN ?_ _) | (with_reducible refine Kd.C_drew ?_)))
                              (case side2 => exact HC102.out)
                              rintro e w99 ⟨v160, rfl, ho0, hb⟩
                              have hbK := Aside0.mk hb
                              have n0_ := Aside0.mk (Kd.V_below (by (with_reducible repeat (first | apply Kd.V_alloc | apply Kd.V_drewN | apply Kd.V_drew)); exact HO_24.out) hb)
                              have n1_ := Aside0.mk (Kd.V_below (by (with_reducible repeat (first | apply Kd.V_alloc | apply Kd.V_drewN | apply Kd.V_drew)); exact HO153.out) hb)
                              have n2_ := Aside0.mk (Kd.V_below (by (with_reducible repeat (first | apply Kd.V_alloc | apply Kd.V_drewN | apply Kd.V_drew)); exact HO156.out) hb)
                              have n3_ := Aside0.mk (Kd.V_lower (Kd.V_mono (ok' := fun k_ => True) ho0 (fun k_ hk_ => trivial)) (below_size (by repeat (first | (with_reducible first | exact HB.out | apply below_alloc | apply pw_below_drewN | apply below_drew1) | exact HB.out))))
                              have n4_ := Aside0.mk (below_step (by repeat (first | (with_reducible first | exact HB.out | apply below_alloc | apply pw_below_drewN | apply below_drew1) | exact HB.out)) hb)
                              clear HO_24
                              clear HO153
                              clear HO156
                              clear HB
                              have HO_24 := n0_
                              have HO153 := n1_
                              have HO156 := n2_
                              have HO161 := n3_
                              have HB := n4_
                              clear n0_ n1_ n2_ n3_ n4_
                              (try clear hb)
                              (try clear hb2)
                              (try clear hk)
                              (try clear hi)
                              (try clear ho0)
                              have hcv100 := V_string (P := Try.prog) Try.underlying23 Try.underlying5 Try.underlying9 HO161.out
                              have hcv101 := V_string (P := Try.prog) Try.underlying23 Try.underlying5 Try.underlying9 HO156.out
                              refine hK.out _ _ hbK.out ?_
                              clear hK K hbK
                              refine norm_ (a' := ?_) ?_ ?_
                              rotate_left
                              · (try simp only [Act.put, List.setIfInBounds_toArray, List.set_cons_zero, List.set_cons_succ, i64_w, i32_w])
                                rfl
                              refine readB_ (i := 5) (N := some 167) (v := ?_) (a' := ?_) #[true, true, true, true, true, true, true, true, false, false, false, false, false, false, false, false, false, false, false, false, false, false, false, false, false, false, false, false, false, false, false, false, false, false, false, false] rfl rfl (by kernel_rfl) (fun _ _ _ h => h) (Or.inl ⟨by rfl, ?_⟩) ?_ ?_
                              rotate_left
                              · intro w' s0
                                first | (have hq_ := V_string (P := Try.prog) Try.underlying23 Try.underlying5 Try.underlying9 (Kd.V_below HO156.out s0); refine (conv_run rfl hq_ (by rfl)).trans ?_; with_reducible rfl) | (have hq_ := V_string (P := Try.prog) Try.underlying23 Try.underlying5 Try.underlying9 (Kd.V_below HO161.out s0); refine (conv_run rfl hq_ (by rfl)).trans ?_; with_reducible rfl) | (have hq_ := V_string (P := Try.prog) Try.underlying23 Try.underlying5 Try.underlying9 (Kd.V_below HO164.out s0); refine (conv_run rfl hq_ (by rfl)).trans ?_; with_reducible rfl) | (have hq_ := V_string (P := Try.prog) Try.underlying23 Try.underlying5 Try.underlying9 (Kd.V_below HO168.out s0); refine (conv_run rfl hq_ (by rfl)).trans ?_; with_reducible rfl) | (have hq_ := V_string (P := Try.prog) Try.underlying23 Try.underlying5 Try.underlying9 (Kd.V_below HO171.out s0); refine (conv_run rfl hq_ (by rfl)).trans ?_; with_reducible rfl) | (have hq_ := Kd.C_string (P := Try.prog) (A := A0) (c := c0) Try.underlying23 Try.underlying5 Try.underlying9 (Kd.C_below (Kd.C_below HR102.out HB.out) s0); refine (conv_run rfl hq_ (by rfl)).trans ?_; with_reducible rfl)
                              rotate_left
                              · simp only [Act.put, List.setIfInBounds_toArray, List.set_cons_zero, List.set_cons_succ, i64_w, i32_w]
                                rfl
                              refine pure_ (i := 8) (N := some 170) (v := ?_) (a' := ?_) #[true, true, true, true, true, true, true, true, true, false, false, false, false, false, false, false, false, false, false, false, false, false, false, false, false, false, false, false, false, false, false, false, false, false, false, false] rfl rfl (by kernel_rfl) (fun _ _ _ h => h) (Or.inl ⟨by rfl, ?_⟩) ?_ ?_
                              rotate_left
                              · intro w' 
                                go_simp
                                with_reducible rfl
                              rotate_left
                              · simp only [Act.put, List.setIfInBounds_toArray, List.set_cons_zero, List.set_cons_succ, i64_w, i32_w]
                                rfl
                              refine pure_ (i := 9) (N := some 171) (v := ?_) (a' := ?_) #[true, true, true, true, true, true, true, true, true, true, false, false, false, false, false, false, false, false, false, false, false, false, false, false, false, false, false, false, false, false, false, false, false, false, false, false] rfl rfl (by kernel_rfl) (fun _ _ _ h => h) (Or.inl ⟨by rfl, ?_⟩) ?_ ?_
                              rotate_left
                              · intro w' 
                                go_simp
                                with_reducible rfl
                              rotate_left
                              · simp only [Act.put, List.setIfInBounds_toArray, List.set_cons_zero, List.set_cons_succ, i64_w, i32_w]
                                rfl
                              refine pure_ (i := 10) (N := some 172) (v := ?_) (a' := ?_) #[true, true, true, true, true, true, true, true, true, true, true, false, false, false, false, false, false, false, false, false, false, false, false, false, false, false, false, false, false, false, false, false, false, false, false, false] rfl rfl (by kernel_rfl) (fun _ _ _ h => h) (Or.inl ⟨by rfl, ?_⟩) ?_ ?_
                              rotate_left
                              · intro w' 
                                go_simp
                                with_reducible rfl
                              rotate_left
                              · simp only [Act.put, List.setIfInBounds_toArray, List.set_cons_zero, List.set_cons_succ, i64_w, i32_w]
                                rfl
                              refine pure_ (i := 11) (N := some 173) (v := ?_) (a' := ?_) #[true, true, true, true, true, true, true, true, true, true, true, true, false, false, false, false, false, false, false, false, false, false, false, false, false, false, false, false, false, false, false, false, false, false, false, false] rfl rfl (by kernel_rfl) (fun _ _ _ h => h) (Or.inl ⟨by rfl, ?_⟩) ?_ ?_
                              rotate_left
                              · intro w' 
                                go_simp
                                with_reducible rfl
                              rotate_left
                              · simp only [Act.put, List.setIfInBounds_toArray, List.set_cons_zero, List.set_cons_succ, i64_w, i32_w]
                                rfl
                              refine pure_ (i := 14) (N := some 176) (v := ?_) (a' := ?_) #[true, true, true, true, true, true, true, true, true, true, true, true, false, false, true, false, false, false, false, false, false, false, false, false, false, false, false, false, false, false, false, false, false, false, false, false] rfl rfl (by kernel_rfl) (fun _ _ _ h => h) (Or.inl ⟨by rfl, ?_⟩) ?_ ?_
                              rotate_left
                              · intro w' 
                                go_simp
                                with_reducible rfl
                              rotate_left
                              · simp only [Act.put, List.setIfInBounds_toArray, List.set_cons_zero, List.set_cons_succ, i64_w, i32_w]
                                rfl
                              refine pure_ (i := 15) (N := some 177) (v := ?_) (a' := ?_) #[true, true, true, true, true, true, true, true, true, true, true, true, false, false, true, true, false, false, false, false, false, false, false, false, false, false, false, false, false, false, false, false, false, false, false, false] rfl rfl (by kernel_rfl) (fun _ _ _ h => h) (Or.inl ⟨by rfl, ?_⟩) ?_ ?_
                              rotate_left
                              · intro w' 
                                go_simp
                                with_reducible rfl
                              rotate_left
                              · simp only [Act.put, List.setIfInBounds_toArray, List.set_cons_zero, List.set_cons_succ, i64_w, i32_w]
                                rfl
                              refine pure_ (i := 16) (N := some 178) (v := ?_) (a' := ?_) #[true, true, true, true, true, true, true, true, true, true, true, true, false, false, true, true, true, false, false, false, false, false, false, false, false, false, false, false, false, false, false, false, false, false, false, false] rfl rfl (by kernel_rfl) (fun _ _ _ h => h) (Or.inl ⟨by rfl, ?_⟩) ?_ ?_
                              rotate_left
                              · intro w' 
                                go_simp
                                with_reducible rfl
                              rotate_left
                              · simp only [Act.put, List.setIfInBounds_toArray, List.set_cons_zero, List.set_cons_succ, i64_w, i32_w]
                                rfl
                              refine oneB_ (i := 12) (N := some 174) #[true, true, true, true, true, true, true, true, true, true, true, true, true, false, true, true, true, false, false, false, false, false, false, false, false, false, false, false, false, false, false, false, false, false, false, false] rfl rfl (by kernel_rfl) (fun K hK => ?_)
                              rw [if_pos (by rfl)]
                              go_simp
                              go_at_call 19
                              (with_reducible refine (vector_Scale.callsV _ _ t151 a3 t162 _ ?side1 ?side2 A91.out).mono ?_)
                              (case side1 => repeat (first | exact (Kd.V_reads' HO153.out).2.2 | (with_reducible refine Kd.C_alloc ?_ _) | (with_reducible refine Kd.C_drewN ?_ _) | (with_reducible refine Kd.C_drew ?_)))
                              (case side2 => exact (Kd.V_reads' HO153.out).2.1)
                              rintro e w102 ⟨v163, rfl, ho0, hb⟩
                              have hbK := Aside0.mk hb
                              have n0_ := Aside0.mk (Kd.V_below (by (with_reducible repeat (first | apply Kd.V_alloc | apply Kd.V_drewN | apply Kd.V_drew)); exact HO_24.out) hb)
                              have n1_ := Aside0.mk (Kd.V_below (by (with_reducible repeat (first | apply Kd.V_alloc | apply Kd.V_drewN | apply Kd.V_drew)); exact HO153.out) hb)
                              have n2_ := Aside0.mk (Kd.V_below (by (with_reducible repeat (first | apply Kd.V_alloc | apply Kd.V_drewN | apply Kd.V_drew)); exact HO156.out) hb)
                              have n3_ := Aside0.mk (Kd.V_below (by (with_reducible repeat (first | apply Kd.V_alloc | apply Kd.V_drewN | apply Kd.V_drew)); exact HO161.out) hb)
                              have n4_ := Aside0.mk (Kd.V_lower (Kd.V_mono (ok' := fun k_ => True) ho0 (fun k_ hk_ => trivial)) (below_size (by repeat (first | (with_reducible first | exact HB.out | apply below_alloc | apply pw_below_drewN | apply below_drew1) | exact HB.out))))
                              have n5_ := Aside0.mk (below_step (by repeat (first | (with_reducible first | exact HB.out | apply below_alloc | apply pw_below_drewN | apply below_drew1) | exact HB.out)) hb)
                              clear HO_24
                              clear HO153
                              clear HO156
                              clear HO161
                              clear HB
                              have HO_24 := n0_
                              have HO153 := n1_
                              have HO156 := n2_
                              have HO161 := n3_
                              have HO164 := n4_
                              have HB := n5_
                              clear n0_ n1_ n2_ n3_ n4_ n5_
                              (try clear hb)
                              (try clear hb2)
                              (try clear hk)
                              (try clear hi)
                              (try clear ho0)
                              have hcv103 := V_string (P := Try.prog) Try.underlying23 Try.underlying5 Try.underlying9 HO164.out
                              refine hK.out _ _ hbK.out ?_
                              clear hK K hbK
                              refine norm_ (a' := ?_) ?_ ?_
                              rotate_left
                              · (try simp only [Act.put, List.setIfInBounds_toArray, List.set_cons_zero, List.set_cons_succ, i64_w, i32_w])
                                rfl
                              refine readB_ (i := 13) (N := some 175) (v := ?_) (a' := ?_) #[true, true, true, true, true, true, true, true, true, true, true, true, true, true, true, true, true, false, false, false, false, false, false, false, false, false, false, false, false, false, false, false, false, false, false, false] rfl rfl (by kernel_rfl) (fun _ _ _ h => h) (Or.inl ⟨by rfl, ?_⟩) ?_ ?_
                              rotate_left
                              · intro w' s0
                                first | (have hq_ := V_string (P := Try.prog) Try.underlying23 Try.underlying5 Try.underlying9 (Kd.V_below HO164.out s0); refine (conv_run rfl hq_ (by rfl)).trans ?_; with_reducible rfl) | (have hq_ := V_string (P := Try.prog) Try.underlying23 Try.underlying5 Try.underlying9 (Kd.V_below HO161.out s0); refine (conv_run rfl hq_ (by rfl)).trans ?_; with_reducible rfl) | (have hq_ := V_string (P := Try.prog) Try.underlying23 Try.underlying5 Try.underlying9 (Kd.V_below HO156.out s0); refine (conv_run rfl hq_ (by rfl)).trans ?_; with_reducible rfl) | (have hq_ := V_string (P := Try.prog) Try.underlying23 Try.underlying5 Try.underlying9 (Kd.V_below HO168.out s0); refine (conv_run rfl hq_ (by rfl)).trans ?_; with_reducible rfl) | (have hq_ := V_string (P := Try.prog) Try.underlying23 Try.underlying5 Try.underlying9 (Kd.V_below HO171.out s0); refine (conv_run rfl hq_ (by rfl)).trans ?_; with_reducible rfl) | (have hq_ := Kd.C_string (P := Try.prog) (A := A0) (c := c0) Try.underlying23 Try.underlying5 Try.underlying9 (Kd.C_below (Kd.C_below HR102.out HB.out) s0); refine (conv_run rfl hq_ (by rfl)).trans ?_; with_reducible rfl)
                              rotate_left
                              · simp only [Act.put, List.setIfInBounds_toArray, List.set_cons_zero, List.set_cons_succ, i64_w, i32_w]
                                rfl
                              refine oneB_ (i := 17) (N := some 179) #[true, true, true, true, true, true, true, true, true, true, true, true, true, true, true, true, true, true, false, false, false, false, false, false, false, false, false, false, false, false, false, false, false, false, false, false] rfl rfl (by kernel_rfl) (fun K hK => ?_)
                              rw [if_pos (by rfl)]
                              go_simp
                              go_at_call 25
                              (with_reducible refine (field_Mul.calls a3 a4 t165 _ A92.out).mono ?_)
                              rintro e w104 ⟨rfl, hb⟩
                              have hbK := Aside0.mk hb
                              have n0_ := Aside0.mk (Kd.V_below (by (with_reducible repeat (first | apply Kd.V_alloc | apply Kd.V_drewN | apply Kd.V_drew)); exact HO_24.out) hb)
                              have n1_ := Aside0.mk (Kd.V_below (by (with_reducible repeat (first | apply Kd.V_alloc | apply Kd.V_drewN | apply Kd.V_drew)); exact HO153.out) hb)
                              have n2_ := Aside0.mk (Kd.V_below (by (with_reducible repeat (first | apply Kd.V_alloc | apply Kd.V_drewN | apply Kd.V_drew)); exact HO156.out) hb)
                              have n3_ := Aside0.mk (Kd.V_below (by (with_reducible repeat (first | apply Kd.V_alloc | apply Kd.V_drewN | apply Kd.V_drew)); exact HO161.out) hb)
                              have n4_ := Aside0.mk (Kd.V_below (by (with_reducible repeat (first | apply Kd.V_alloc | apply Kd.V_drewN | apply Kd.V_drew)); exact HO164.out) hb)
                              have n5_ := Aside0.mk (below_step (by repeat (first | (with_reducible first | exact HB.out | apply below_alloc | apply pw_below_drewN | apply below_drew1) | exact HB.out)) hb)
                              clear HO_24
                              clear HO153
                              clear HO156
                              clear HO161
                              clear HO164
                              clear HB
                              have HO_24 := n0_
                              have HO153 := n1_
                              have HO156 := n2_
                              have HO161 := n3_
                              have HO164 := n4_
                              have HB := n5_
                              clear n0_ n1_ n2_ n3_ n4_ n5_
                              (try clear hb)
                              (try clear hb2)
                              (try clear hk)
                              (try clear hi)
                              refine hK.out _ _ hbK.out ?_
                              clear hK K hbK
                              refine norm_ (a' := ?_) ?_ ?_
                              rotate_left
                              · (try simp only [Act.put, List.setIfInBounds_toArray, List.set_cons_zero, List.set_cons_succ, i64_w, i32_w])
                                rfl
                              refine oneB_ (i := 18) (N := some 180) #[true, true, true, true, true, true, true, true, true, true, true, true, true, true, true, true, true, true, true, false, false, false, false, false, false, false, false, false, false, false, false, false, false, false, false, false] rfl rfl (by kernel_rfl) (fun K hK => ?_)
                              rw [if_pos (by rfl)]
                              go_simp
                              go_at_call 19
                              (with_reducible refine (vector_Scale.callsV _ _ yc21 t165 t166 _ ?side1 ?side2 A93.out).mono ?_)
                              (case side1 => repeat (first | exact (Kd.C_below HR102.out HB.out) | (with_reducible refine Kd.C_alloc ?_ _) | (with_reducible refine Kd.C_drewN ?_ _) | (with_reducible refine Kd.C_drew ?_)))
                              (case side2 => exact HC102.out)
                              rintro e w105 ⟨v167, rfl, ho0, hb⟩
                              have hbK := Aside0.mk hb
                              have n0_ := Aside0.mk (Kd.V_below (by (with_reducible repeat (first | apply Kd.V_alloc | apply Kd.V_drewN | apply Kd.V_drew)); exact HO_24.out) hb)
                              have n1_ := Aside0.mk (Kd.V_below (by (with_reducible repeat (first | apply Kd.V_alloc | apply Kd.V_drewN | apply Kd.V_drew)); exact HO153.out) hb)
                              have n2_ := Aside0.mk (Kd.V_below (by (with_reducible repeat (first | apply Kd.V_alloc | apply Kd.V_drewN | apply Kd.V_drew)); exact HO156.out) hb)
                              have n3_ := Aside0.mk (Kd.V_below (by (with_reducible repeat (first | apply Kd.V_alloc | apply Kd.V_drewN | apply Kd.V_drew)); exact HO161.out) hb)
                              have n4_ := Aside0.mk (Kd.V_below (by (with_reducible repeat (first | apply Kd.V_alloc | apply Kd.V_drewN | apply Kd.V_drew)); exact HO164.out) hb)
                              have n5_ := Aside0.mk (Kd.V_lower (Kd.V_mono (ok' := fun k_ => True) ho0 (fun k_ hk_ => trivial)) (below_size (by repeat (first | (with_reducible first | exact HB.out | apply below_alloc | apply pw_below_drewN | apply below_drew1) | exact HB.out))))
                              have n6_ := Aside0.mk (below_step (by repeat (first | (with_reducible first | exact HB.out | apply below_alloc | apply pw_below_drewN | apply below_drew1) | exact HB.out)) hb)
                              clear HO_24
                              clear HO153
                              clear HO156
                              clear HO161
                              clear HO164
                              clear HB
                              have HO_24 := n0_
                              have HO153 := n1_
                              have HO156 := n2_
                              have HO161 := n3_
                              have HO164 := n4_
                              have HO168 := n5_
                              have HB := n6_
                              clear n0_ n1_ n2_ n3_ n4_ n5_ n6_
                              (try clear hb)
                              (try clear hb2)
                              (try clear hk)
                              (try clear hi)
                              (try clear ho0)
                              have hcv106 := V_string (P := Try.prog) Try.underlying23 Try.underlying5 Try.underlying9 HO168.out
                              refine hK.out _ _ hbK.out ?_
                              clear hK K hbK
                              refine norm_ (a' := ?_) ?_ ?_
                              rotate_left
                              · (try simp only [Act.put, List.setIfInBounds_toArray, List.set_cons_zero, List.set_cons_succ, i64_w, i32_w])
                                rfl
                              refine readB_ (i := 19) (N := some 181) (v := ?_) (a' := ?_) #[true, true, true, true, true, true, true, true, true, true, true, true, true, true, true, true, true, true, true, true, false, false, false, false, false, false, false, false, false, false, false, false, false, false, false, false] rfl rfl (by kernel_rfl) (fun _ _ _ h => h) (Or.inl ⟨by rfl, ?_⟩) ?_ ?_
                              rotate_left
                              · intro w' s0
                                first | (have hq_ := V_string (P := Try.prog) Try.underlying23 Try.underlying5 Try.underlying9 (Kd.V_below HO168.out s0); refine (conv_run rfl hq_ (by rfl)).trans ?_; with_reducible rfl) | (have hq_ := V_string (P := Try.prog) Try.underlying23 Try.underlying5 Try.underlying9 (Kd.V_below HO161.out s0); refine (conv_run rfl hq_ (by rfl)).trans ?_; with_reducible rfl) | (have hq_ := V_string (P := Try.prog) Try.underlying23 Try.underlying5 Try.underlying9 (Kd.V_below HO156.out s0); refine (conv_run rfl hq_ (by rfl)).trans ?_; with_reducible rfl) | (have hq_ := V_string (P := Try.prog) Try.underlying23 Try.underlying5 Try.underlying9 (Kd.V_below HO164.out s0); refine (conv_run rfl hq_ (by rfl)).trans ?_; with_reducible rfl) | (have hq_ := V_string (P := Try.prog) Try.underlying23 Try.underlying5 Try.underlying9 (Kd.V_below HO171.out s0); refine (conv_run rfl hq_ (by rfl)).trans ?_; with_reducible rfl) | (have hq_ := Kd.C_string (P := Try.prog) (A := A0) (c := c0) Try.underlying23 Try.underlying5 Try.underlying9 (Kd.C_below (Kd.C_below HR102.out HB.out) s0); refine (conv_run rfl hq_ (by rfl)).trans ?_; with_reducible rfl)
                              rotate_left
                              · simp only [Act.put, List.setIfInBounds_toArray, List.set_cons_zero, List.set_cons_succ, i64_w, i32_w]
                                rfl
                              refine pure_ (i := 20) (N := some 182) (v := ?_) (a' := ?_) #[true, true, true, true, true, true, true, true, true, true, true, true, true, true, true, true, true, true, true, true, true, false, false, false, false, false, false, false, false, false, false, false, false, false, false, false] rfl rfl (by kernel_rfl) (fun _ _ _ h => h) (Or.inl ⟨by rfl, ?_⟩) ?_ ?_
                              rotate_left
                              · intro w' 
                                go_simp
                                with_reducible rfl
                              rotate_left
                              · simp only [Act.put, List.setIfInBounds_toArray, List.set_cons_zero, List.set_cons_succ, i64_w, i32_w]
                                rfl
                              refine pure_ (i := 21) (N := some 183) (v := ?_) (a' := ?_) #[true, true, true, true, true, true, true, true, true, true, true, true, true, true, true, true, true, true, true, true, true, true, false, false, false, false, false, false, false, false, false, false, false, false, false, false] rfl rfl (by kernel_rfl) (fun _ _ _ h => h) (Or.inl ⟨by rfl, ?_⟩) ?_ ?_
                              rotate_left
                              · intro w' 
                                go_simp
                                with_reducible rfl
                              rotate_left
                              · simp only [Act.put, List.setIfInBounds_toArray, List.set_cons_zero, List.set_cons_succ, i64_w, i32_w]
                                rfl
                              refine pure_ (i := 22) (N := some 184) (v := ?_) (a' := ?_) #[true, true, true, true, true, true, true, true, true, true, true, true, true, true, true, true, true, true, true, true, true, true, true, false, false, false, false, false, false, false, false, false, false, false, false, false] rfl rfl (by kernel_rfl) (fun _ _ _ h => h) (Or.inl ⟨by rfl, ?_⟩) ?_ ?_
                              rotate_left
                              · intro w' 
                                go_simp
                                with_reducible rfl
                              rotate_left
                              · simp only [Act.put, List.setIfInBounds_toArray, List.set_cons_zero, List.set_cons_succ, i64_w, i32_w]
                                rfl
                              refine pure_ (i := 23) (N := some 185) (v := ?_) (a' := ?_) #[true, true, true, true, true, true, true, true, true, true, true, true, true, true, true, true, true, true, true, true, true, true, true, true, false, false, false, false, false, false, false, false, false, false, false, false] rfl rfl (by kernel_rfl) (fun _ _ _ h => h) (Or.inl ⟨by rfl, ?_⟩) ?_ ?_
                              rotate_left
                              · intro w' 
                                go_simp
                                with_reducible rfl
                              rotate_left
                              · simp only [Act.put, List.setIfInBounds_toArray, List.set_cons_zero, List.set_cons_succ, i64_w, i32_w]
                                rfl
                              refine pure_ (i := 26) (N := some 188) (v := ?_) (a' := ?_) #[true, true, true, true, true, true, true, true, true, true, true, true, true, true, true, true, true, true, true, true, true, true, true, true, false, false, true, false, false, false, false, false, false, false, false, false] rfl rfl (by kernel_rfl) (fun _ _ _ h => h) (Or.inl ⟨by rfl, ?_⟩) ?_ ?_
                              rotate_left
                              · intro w' 
                                go_simp
                                with_reducible rfl
                              rotate_left
                              · simp only [Act.put, List.setIfInBounds_toArray, List.set_cons_zero, List.set_cons_succ, i64_w, i32_w]
                                rfl
                              refine readB_ (i := 27) (N := some 189) (v := ?_) (a' := ?_) #[true, true, true, true, true, true, true, true, true, true, true, true, true, true, true, true, true, true, true, true, true, true, true, true, false, false, true, true, false, false, false, false, false, false, false, false] rfl rfl (by kernel_rfl) (fun _ _ _ h => h) (Or.inl ⟨by rfl, ?_⟩) ?_ ?_
                              rotate_left
                              · intro w' s0
                                first | (have hq_ := V_string (P := Try.prog) Try.underlying23 Try.underlying5 Try.underlying9 (Kd.V_below HO171.out s0); refine (conv_run rfl hq_ (by rfl)).trans ?_; with_reducible rfl) | (have hq_ := V_string (P := Try.prog) Try.underlying23 Try.underlying5 Try.underlying9 (Kd.V_below HO161.out s0); refine (conv_run rfl hq_ (by rfl)).trans ?_; with_reducible rfl) | (have hq_ := V_string (P := Try.prog) Try.underlying23 Try.underlying5 Try.underlying9 (Kd.V_below HO156.out s0); refine (conv_run rfl hq_ (by rfl)).trans ?_; with_reducible rfl) | (have hq_ := V_string (P := Try.prog) Try.underlying23 Try.underlying5 Try.underlying9 (Kd.V_below HO164.out s0); refine (conv_run rfl hq_ (by rfl)).trans ?_; with_reducible rfl) | (have hq_ := V_string (P := Try.prog) Try.underlying23 Try.underlying5 Try.underlying9 (Kd.V_below HO168.out s0); refine (conv_run rfl hq_ (by rfl)).trans ?_; with_reducible rfl) | (have hq_ := Kd.C_string (P := Try.prog) (A := A0) (c := c0) Try.underlying23 Try.underlying5 Try.underlying9 (Kd.C_below (Kd.C_below HR102.out HB.out) s0); refine (conv_run rfl hq_ (by rfl)).trans ?_; with_reducible rfl)
                              rotate_left
                              · simp only [Act.put, List.setIfInBounds_toArray, List.set_cons_zero, List.set_cons_succ, i64_w, i32_w]
                                rfl
                              refine oneB_ (i := 24) (N := some 186) #[true, true, true, true, true, true, true, true, true, true, true, true, true, true, true, true, true, true, true, true, true, true, true, true, true, false, true, true, false, false, false, false, false, false, false, false] rfl rfl (by kernel_rfl) (fun K hK => ?_)
                              rw [if_pos (by rfl)]
                              go_simp
                              go_at_call 19
                              (with_reducible refine (vector_Scale.callsV _ _ yc21 1 t169 _ ?side1 ?side2 A95.out).mono ?_)
                              (case side1 => repeat (first | exact (Kd.C_below HR102.out HB.out) | (with_reducible refine Kd.C_alloc ?_ _) | (with_reducible refine Kd.C_drewN ?_ _) | (with_reducible refine Kd.C_drew ?_)))
                              (case side2 => exact HC102.out)
                              rintro e w107 ⟨v170, rfl, ho0, hb⟩
                              have hbK := Aside0.mk hb
                              have n0_ := Aside0.mk (Kd.V_below (by (with_reducible repeat (first | apply Kd.V_alloc | apply Kd.V_drewN | apply Kd.V_drew)); exact HO_24.out) hb)
                              have n1_ := Aside0.mk (Kd.V_below (by (with_reducible repeat (first | apply Kd.V_alloc | apply Kd.V_drewN | apply Kd.V_drew)); exact HO153.out) hb)
                              have n2_ := Aside0.mk (Kd.V_below (by (with_reducible repeat (first | apply Kd.V_alloc | apply Kd.V_drewN | apply Kd.V_drew)); exact HO156.out) hb)
                              have n3_ := Aside0.mk (Kd.V_below (by (with_reducible repeat (first | apply Kd.V_alloc | apply Kd.V_drewN | apply Kd.V_drew)); exact HO161.out) hb)
                              have n4_ := Aside0.mk (Kd.V_below (by (with_reducible repeat (first | apply Kd.V_alloc | apply Kd.V_drewN | apply Kd.V_drew)); exact HO164.out) hb)
                              have n5_ := Aside0.mk (Kd.V_below (by (with_reducible repeat (first | apply Kd.V_alloc | apply Kd.V_drewN | apply Kd.V_drew)); exact HO168.out) hb)
                              have n6_ := Aside0.mk (Kd.V_lower (Kd.V_mono (ok' := fun k_ => True) ho0 (fun k_ hk_ => trivial)) (below_size (by repeat (first | (with_reducible first | exact HB.out | apply below_alloc | apply pw_below_drewN | apply below_drew1) | exact HB.out))))
                              have n7_ := Aside0.mk (below_step (by repeat (first | (with_reducible first | exact HB.out | apply below_alloc | apply pw_below_drewN | apply below_drew1) | exact HB.out)) hb)
                              clear HO_24
                              clear HO153
                              clear HO156
                              clear HO161
                              clear HO164
                              clear HO168
                              clear HB
                              have HO_24 := n0_
                              have HO153 := n1_
                              have HO156 := n2_
                              have HO161 := n3_
                              have HO164 := n4_
                              have HO168 := n5_
                              have HO171 := n6_
                              have HB := n7_
                              clear n0_ n1_ n2_ n3_ n4_ n5_ n6_ n7_
                              (try clear hb)
                              (try clear hb2)
                              (try clear hk)
                              (try clear hi)
                              (try clear ho0)
                              have hcv108 := V_string (P := Try.prog) Try.underlying23 Try.underlying5 Try.underlying9 HO171.out
                              have hcv109 := Kd.C_string (P := Try.prog) (A := A0) (c := c0) Try.underlying23 Try.underlying5 Try.underlying9 (Kd.C_below HR102.out HB.out)
                              refine hK.out _ _ hbK.out ?_
                              clear hK K hbK
                              refine norm_ (a' := ?_) ?_ ?_
                              rotate_left
                              · (try simp only [Act.put, List.setIfInBounds_toArray, List.set_cons_zero, List.set_cons_succ, i64_w, i32_w])
                                rfl
                              refine readB_ (i := 25) (N := some 187) (v := ?_) (a' := ?_) #[true, true, true, true, true, true, true, true, true, true, true, true, true, true, true, true, true, true, true, true, true, true, true, true, true, true, true, true, false, false, false, false, false, false, false, false] rfl rfl (by kernel_rfl) (fun _ _ _ h => h) (Or.inl ⟨by rfl, ?_⟩) ?_ ?_
                              rotate_left
                              · intro w' s0
                                first | (have hq_ := Kd.C_string (P := Try.prog) (A := A0) (c := c0) Try.underlying23 Try.underlying5 Try.underlying9 (Kd.C_below (Kd.C_below HR102.out HB.out) s0); refine (conv_run rfl hq_ (by rfl)).trans ?_; with_reducible rfl) | (have hq_ := V_string (P := Try.prog) Try.underlying23 Try.underlying5 Try.underlying9 (Kd.V_below HO161.out s0); refine (conv_run rfl hq_ (by rfl)).trans ?_; with_reducible rfl) | (have hq_ := V_string (P := Try.prog) Try.underlying23 Try.underlying5 Try.underlying9 (Kd.V_below HO156.out s0); refine (conv_run rfl hq_ (by rfl)).trans ?_; with_reducible rfl) | (have hq_ := V_string (P := Try.prog) Try.underlying23 Try.underlying5 Try.underlying9 (Kd.V_below HO164.out s0); refine (conv_run rfl hq_ (by rfl)).trans ?_; with_reducible rfl) | (have hq_ := V_string (P := Try.prog) Try.underlying23 Try.underlying5 Try.underlying9 (Kd.V_below HO168.out s0); refine (conv_run rfl hq_ (by rfl)).trans ?_; with_reducible rfl) | (have hq_ := V_string (P := Try.prog) Try.underlying23 Try.underlying5 Try.underlying9 (Kd.V_below HO171.out s0); refine (conv_run rfl hq_ (by rfl)).trans ?_; with_reducible rfl)
                              rotate_left
                              · simp only [Act.put, List.setIfInBounds_toArray, List.set_cons_zero, List.set_cons_succ, i64_w, i32_w]
                                rfl
                              refine pure_ (i := 28) (N := some 190) (v := ?_) (a' := ?_) #[true, true, true, true, true, true, true, true, true, true, true, true, true, true, true, true, true, true, true, true, true, true, true, true, true, true, true, true, true, false, false, false, false, false, false, false] rfl rfl (by kernel_rfl) (fun _ _ _ h => h) (Or.inl ⟨by rfl, ?_⟩) ?_ ?_
                              rotate_left
                              · intro w' 
                                go_simp
                                with_reducible rfl
                              rotate_left
                              · simp only [Act.put, List.setIfInBounds_toArray, List.set_cons_zero, List.set_cons_succ, i64_w, i32_w]
                                rfl
                              refine pure_ (i := 29) (N := some 191) (v := ?_) (a' := ?_) #[true, true, true, true, true, true, true, true, true, true, true, true, true, true, true, true, true, true, true, true, true, true, true, true, true, true, true, true, true, true, false, false, false, false, false, false] rfl rfl (by kernel_rfl) (fun _ _ _ h => h) (Or.inl ⟨by rfl, ?_⟩) ?_ ?_
                              rotate_left
                              · intro w' 
                                go_simp
                                with_reducible rfl
                              rotate_left
                              · simp only [Act.put, List.setIfInBounds_toArray, List.set_cons_zero, List.set_cons_succ, i64_w, i32_w]
                                rfl
                              refine pure_ (i := 30) (N := some 192) (v := ?_) (a' := ?_) #[true, true, true, true, true, true, true, true, true, true, true, true, true, true, true, true, true, true, true, true, true, true, true, true, true, true, true, true, true, true, true, false, false, false, false, false] rfl rfl (by kernel_rfl) (fun _ _ _ h => h) (Or.inl ⟨by rfl, ?_⟩) ?_ ?_
                              rotate_left
                              · intro w' 
                                go_simp
                                with_reducible rfl
                              rotate_left
                              · simp only [Act.put, List.setIfInBounds_toArray, List.set_cons_zero, List.set_cons_succ, i64_w, i32_w]
                                rfl
                              refine pure_ (i := 31) (N := some 193) (v := ?_) (a' := ?_) #[true, true, true, true, true, true, true, true, true, true, true, true, true, true, true, true, true, true, true, true, true, true, true, true, true, true, true, true, true, true, true, true, false, false, false, false] rfl rfl (by kernel_rfl) (fun _ _ _ h => h) (Or.inl ⟨by rfl, ?_⟩) ?_ ?_
                              rotate_left
                              · intro w' 
                                go_simp
                                with_reducible rfl
                              rotate_left
                              · simp only [Act.put, List.setIfInBounds_toArray, List.set_cons_zero, List.set_cons_succ, i64_w, i32_w]
                                rfl
                              refine oneB_ (i := 32) (N := some 194) #[true, true, true, true, true, true, true, true, true, true, true, true, true, true, true, true, true, true, true, true, true, true, true, true, true, true, true, true, true, true, true, true, true, false, false, false] rfl rfl (by kernel_rfl) (fun K hK => ?_)
                              rw [if_pos (by rfl)]
                              go_simp
                              go_at_call 19
                              (with_reducible refine (vector_Scale.callsV _ _ yc21 0 t172 _ ?side1 ?side2 A97.out).mono ?_)
                              (case side1 => repeat (first | exact (Kd.C_below HR102.out HB.out) | (with_reducible refine Kd.C_alloc ?_ _) | (with_reducible refine Kd.C_drewN ?_ _) | (with_reducible refine Kd.C_drew ?_)))
                              (case side2 => exact HC102.out)
                              rintro e w110 ⟨v173, rfl, ho0, hb⟩
                              have hbK := Aside0.mk hb
                              have n0_ := Aside0.mk (Kd.V_below (by (with_reducible repeat (first | apply Kd.V_alloc | apply Kd.V_drewN | apply Kd.V_drew)); exact HO_24.out) hb)
                              have n1_ := Aside0.mk (Kd.V_below (by (with_reducible repeat (first | apply Kd.V_alloc | apply Kd.V_drewN | apply Kd.V_drew)); exact HO153.out) hb)
                              have n2_ := Aside0.mk (Kd.V_below (by (with_reducible repeat (first | apply Kd.V_alloc | apply Kd.V_drewN | apply Kd.V_drew)); exact HO156.out) hb)
                              have n3_ := Aside0.mk (Kd.V_below (by (with_reducible repeat (first | apply Kd.V_alloc | apply Kd.V_drewN | apply Kd.V_drew)); exact HO161.out) hb)
                              have n4_ := Aside0.mk (Kd.V_below (by (with_reducible repeat (first | apply Kd.V_alloc | apply Kd.V_drewN | apply Kd.V_drew)); exact HO164.out) hb)
                              have n5_ := Aside0.mk (Kd.V_below (by (with_reducible repeat (first | apply Kd.V_alloc | apply Kd.V_drewN | apply Kd.V_drew)); exact HO168.out) hb)
                              have n6_ := Aside0.mk (Kd.V_below (by (with_reducible repeat (first | apply Kd.V_alloc | apply Kd.V_drewN | apply Kd.V_drew)); exact HO171.out) hb)
                              have n7_ := Aside0.mk (Kd.V_lower (Kd.V_mono (ok' := fun k_ => True) ho0 (fun k_ hk_ => trivial)) (below_size (by repeat (first | (with_reducible first | exact HB.out | apply below_alloc | apply pw_below_drewN | apply below_drew1) | exact HB.out))))
                              have n8_ := Aside0.mk (below_step (by repeat (first | (with_reducible first | exact HB.out | apply below_alloc | apply pw_below_drewN | apply below_drew1) | exact HB.out)) hb)
                              clear HO_24
                              clear HO153
                              clear HO156
                              clear HO161
                              clear HO164
                              clear HO168
                              clear HO171
                              clear HB
                              have HO_24 := n0_
                              have HO153 := n1_
                              have HO156 := n2_
                              have HO161 := n3_
                              have HO164 := n4_
                              have HO168 := n5_
                              have HO171 := n6_
                              have HO174 := n7_
                              have HB := n8_
                              clear n0_ n1_ n2_ n3_ n4_ n5_ n6_ n7_ n8_
                              (try clear hb)
                              (try clear hb2)
                              (try clear hk)
                              (try clear hi)
                              (try clear ho0)
                              obtain ⟨Ao111, co111, eo111⟩ := Kd.V_slice HO174.out
                              subst eo111
                              refine hK.out _ _ hbK.out ?_
                              clear hK K hbK
                              refine norm_ (a' := ?_) ?_ ?_
                              rotate_left
                              · (try simp only [Act.put, List.setIfInBounds_toArray, List.set_cons_zero, List.set_cons_succ, i64_w, i32_w])
                                rfl
                              refine oneB_ (i := 33) (N := some 195) #[true, true, true, true, true, true, true, true, true, true, true, true, true, true, true, true, true, true, true, true, true, true, true, true, true, true, true, true, true, true, true, true, true, true, false, false] rfl rfl (by kernel_rfl) (fun K hK => ?_)
                              rw [if_pos (by rfl)]
                              go_simp
                              go_at_call 23
                              (with_reducible refine (vector_IsZero.calls _ _ t172 t175 _ ?side1 ?side2 A98.out).mono ?_)
                              (case side1 => repeat (first | exact (Kd.V_reads' HO174.out).2.2 | (with_reducible refine Kd.C_alloc ?_ _) | (with_reducible refine Kd.C_drewN ?_ _) | (with_reducible refine Kd.C_drew ?_)))
                              (case side2 => exact (Kd.V_reads' HO174.out).2.1)
                              rintro e wq ⟨rfl, hdq⟩
                              have hbK := Aside0.mk (drawn_below hdq)
                              clear hdq
                              have n_ := Aside0.mk (Kd.V_below HO_24.out hbK.out)
                              clear HO_24
                              have HO_24 := n_
                              clear n_
                              have n_ := Aside0.mk (Kd.V_below HO153.out hbK.out)
                              clear HO153
                              have HO153 := n_
                              clear n_
                              have n_ := Aside0.mk (Kd.V_below HO156.out hbK.out)
                              clear HO156
                              have HO156 := n_
                              clear n_
                              have n_ := Aside0.mk (below_step HB.out hbK.out)
                              clear HB
                              have HB := n_
                              clear n_
                              have n_ := Aside0.mk (Kd.V_below HO161.out hbK.out)
                              clear HO161
                              have HO161 := n_
                              clear n_
                              have n_ := Aside0.mk (Kd.V_below HO164.out hbK.out)
                              clear HO164
                              have HO164 := n_
                              clear n_
                              have n_ := Aside0.mk (Kd.V_below HO168.out hbK.out)
                              clear HO168
                              have HO168 := n_
                              clear n_
                              have n_ := Aside0.mk (Kd.V_below HO171.out hbK.out)
                              clear HO171
                              have HO171 := n_
                              clear n_
                              have n_ := Aside0.mk (Kd.V_below HO174.out hbK.out)
                              clear HO174
                              have HO174 := n_
                              clear n_
                              refine hK.out _ _ hbK.out ?_
                              clear hK K hbK
                              refine norm_ (a' := ?_) ?_ ?_
                              rotate_left
                              · (try simp only [Act.put, List.setIfInBounds_toArray, List.set_cons_zero, List.set_cons_succ, i64_w, i32_w])
                                rfl
                              refine pure_ (i := 34) (N := some 196) (v := ?_) (a' := ?_) #[true, true, true, true, true, true, true, true, true, true, true, true, true, true, true, true, true, true, true, true, true, true, true, true, true, true, true, true, true, true, true, true, true, true, true, false] rfl rfl (by kernel_rfl) (fun _ _ _ h => h) (Or.inl ⟨by rfl, ?_⟩) ?_ ?_
                              rotate_left
                              · intro w' 
                                go_simp
                                with_reducible rfl
                              rotate_left
                              · simp only [Act.put, List.setIfInBounds_toArray, List.set_cons_zero, List.set_cons_succ, i64_w, i32_w]
                                rfl
                              refine pure_ (i := 35) (N := some 197) (v := ?_) (a' := ?_) #[true, true, true, true, true, true, true, true, true, true, true, true, true, true, true, true, true, true, true, true, true, true, true, true, true, true, true, true, true, true, true, true, true, true, true, true] rfl rfl (by kernel_rfl) (fun _ _ _ h => h) (Or.inl ⟨by rfl, ?_⟩) ?_ ?_
                              rotate_left
                              · intro w' 
                                go_simp
                                with_reducible rfl
                              rotate_left
                              · simp only [Act.put, List.setIfInBounds_toArray, List.set_cons_zero, List.set_cons_succ, i64_w, i32_w]
                                rfl
                              refine done_ (by kernel_rfl) ?_
                              try go_wp2_with (fail)
                              repeat (go_quiet (fail); try go_wp2_with (fail))
                              go_meet
                              case rel => exact ⟨_, (!t175), (by first | rfl | (simp; done) | (simp [*]; done)), H', ⟨by have := HJ19.out; have := HJ62.out; first | omega | exact Nat.le_refl _⟩, ⟨by (with_reducible repeat (first | apply Kd.V_alloc | apply Kd.V_drewN | apply Kd.V_drew)); exact HO_24.out⟩, ⟨by repeat (first | (with_reducible first | exact HB.out | apply below_alloc | apply pw_below_drewN | apply below_drew1) | exact HB.out)⟩⟩
                            · rw [if_neg c96] at H
                              have c96b0 : ((strOfNums t169).toList == (strOfNums yc21).toList) = false := beq_eq_false_iff_ne.mpr c96
                              have c96b1 : ((strOfNums t169).toList != (strOfNums yc21).toList) = true := bne_iff_ne.mpr c96
                              exact absurd H (by cases kj62 <;> simp [braidworklaw02_VectorSpace.j2])
                          · rw [if_neg c94] at H
                            have c94b0 : ((strOfNums t162).toList == (strOfNums t166).toList) = false := beq_eq_false_iff_ne.mpr c94
                            have c94b1 : ((strOfNums t162).toList != (strOfNums t166).toList) = true := bne_iff_ne.mpr c94
                            exact absurd H (by cases kj62 <;> simp [braidworklaw02_VectorSpace.j2])
                        · rw [if_neg c90] at H
                          have c90b0 : ((strOfNums t159).toList == (strOfNums t154).toList) = false := beq_eq_false_iff_ne.mpr c90
                          have c90b1 : ((strOfNums t159).toList != (strOfNums t154).toList) = true := bne_iff_ne.mpr c90
                          (first | rw [c90b0] | (simp only [i64_w, i32_w]; rw [c90b0]) | skip)
                          exact absurd H (by cases kj62 <;> simp [braidworklaw02_VectorSpace.j2])
                      case rest =>
                        clear HC84
                        try clear c1
                        try clear hcv1
                        try clear c2
                        try clear p2
                        try clear c3
                        try clear hcv3
                        try clear hcv4
                        try clear c5
                        try clear hcv5
                        try clear c7
                        try clear hcv7
                        try clear c8
                        try clear c8b0
                        try clear c8b1
                        try clear hcv8
                        try clear c9
                        try clear c9b0
                        try clear c9b1
                        try clear c10
                        try clear c10b0
                        try clear hcv10
                        try clear c11
                        try clear c11b0
                        try clear c11b1
                        try clear hcv11
                        try clear c12
                        try clear c12b0
                        try clear hcv12
                        try clear c13
                        try clear c13b0
                        try clear c13b1
                        try clear hcv13
                        try clear c32
                        try clear c32b0
                        try clear c32b1
                        try clear c33
                        try clear c33b0
                        try clear c33b1
                        try clear c34
                        try clear c34b0
                        try clear c34b1
                        try clear c36
                        try clear hcv37
                        try clear hcv38
                        try clear hcv39
                        try clear hcv40
                        try clear hcv42
                        try clear hcv43
                        try clear hcv44
                        try clear hcv45
                        try clear hcv47
                        try clear hcv48
                        try clear hcv49
                        try clear hcv50
                        try clear hcv51
                        try clear hcv52
                        try clear hcv53
                        try clear hcv54
                        try clear hcv55
                        try clear hcv56
                        try clear c57
                        try clear c72
                        try clear c72b0
                        try clear c72b1
                        try clear hcv74
                        try clear hcv75
                        try clear hcv76
                        try clear hcv77
                        try clear hcv79
                        try clear hcv80
                        try clear c81
                        try clear c90
                        try clear c90b0
                        try clear c90b1
                        try clear c94
                        try clear c94b0
                        try clear c94b1
                        try clear c96
                        try clear c96b0
                        try clear c96b1
                        try clear hcv100
                        try clear hcv101
                        try clear hcv103
                        try clear hcv106
                        try clear hcv108
                        try clear hcv109
                        try clear hcv113
                        try clear hcv114
                        try clear hcv116
                        try clear hcv119
                        try clear hcv121
                        try clear hcv122
                        try clear hcv124
                        try clear hcv125
                        try clear hcv127
                        try clear hcv130
                        try clear hcv132
                        try clear hcv133
                        try clear p2
                        obtain ⟨kq, x197_83, rfl, HA, HJ83, HO_24, HB⟩ := hcut
                        cases kq with
                        | zero => exact absurd HA.out (by simp [braidworklaw02_VectorSpace.j2])
                        | succ kj83 =>
                          have H := HA.out
                          clear HA
                          simp only [braidworklaw02_VectorSpace.j2] at H
                          by_cases c134 : x197_83 = true
                          · subst c134
                            have H1 : (none) = some r := by rw [if_pos rfl] at H; exact H
                            clear H
                            have H := H1
                            clear H1
                            exact absurd H (by simp)
                          · replace c134 := Bool.eq_false_iff.mpr c134
                            subst c134
                            have H1 : (if a3 = 0 then ((braidworklaw02_wakes.f kj83).bind fun t176 => (some t176)) else ((vector_Lead.f t130).bind fun t177 => ((vector_Lead.f yc21).bind fun t178 => (if t177 = t178 then ((braidworklaw02_wakes.f kj83).bind fun t179 => (some t179)) else (none))))) = some r := by rw [if_neg (show ¬ (false = true) by decide)] at H; exact H
                            clear H
                            have H := H1
                            clear H1
                            by_cases c135 : a3 = 0
                            · rw [if_pos c135] at H
                              have c135b0 : (a3 == 0) = true := beq_iff_eq.mpr c135
                              have c135b1 : (a3 != 0) = false := bne_eq_false_iff_eq.mpr c135
                              clear c135
                              replace H := Option.bind_eq_some_iff.mp H
                              obtain ⟨t176, A1360, H⟩ := H
                              replace H : (some t176) = some r := H
                              have A136 := Aside0.mk A1360
                              clear A1360
                              obtain rfl := Option.some.inj H
                              go_wp2_with (first | (go_at_call 10; (with_reducible refine (braidworklaw02_wakes.calls kj83  t176 _ A136.out).mono ?_); rintro e w137 ⟨rfl, hb⟩; have n0_ := Aside0.mk (Kd.V_below (by (with_reducible repeat (first | apply Kd.V_alloc | apply Kd.V_drewN | apply Kd.V_drew)); exact HO_24.out) hb); have n1_ := Aside0.mk (below_step (by repeat (first | (with_reducible first | exact HB.out | apply below_alloc | apply pw_below_drewN | apply below_drew1) | exact HB.out)) hb); clear HO_24; clear HB; have HO_24 := n0_; have HB := n1_; clear n0_ n1_; (try clear hb); (try clear hb2); (try clear hk); (try clear hi)))
                              repeat (go_quiet (first | (go_at_call 10; (with_reducible refine (braidworklaw02_wakes.calls kj83  t176 _ A136.out).mono ?_); rintro e w137 ⟨rfl, hb⟩; have n0_ := Aside0.mk (Kd.V_below (by (with_reducible repeat (first | apply Kd.V_alloc | apply Kd.V_drewN | apply Kd.V_drew)); exact HO_24.out) hb); have n1_ := Aside0.mk (below_step (by repeat (first | (with_reducible first | exact HB.out | apply below_alloc | apply pw_below_drewN | apply below_drew1) | exact HB.out)) hb); clear HO_24; clear HB; have HO_24 := n0_; have HB := n1_; clear n0_ n1_; (try clear hb); (try clear hb2); (try clear hk); (try clear hi))); try go_wp2_with (first | (go_at_call 10; (with_reducible refine (braidworklaw02_wakes.calls kj83  t176 _ A136.out).mono ?_); rintro e w137 ⟨rfl, hb⟩; have n0_ := Aside0.mk (Kd.V_below (by (with_reducible repeat (first | apply Kd.V_alloc | apply Kd.V_drewN | apply Kd.V_drew)); exact HO_24.out) hb); have n1_ := Aside0.mk (below_step (by repeat (first | (with_reducible first | exact HB.out | apply below_alloc | apply pw_below_drewN | apply below_drew1) | exact HB.out)) hb); clear HO_24; clear HB; have HO_24 := n0_; have HB := n1_; clear n0_ n1_; (try clear hb); (try clear hb2); (try clear hk); (try clear hi))))
                              go_ret
                              exact ⟨by first | rfl | (simp [errW_none, errW_some] <;> rfl) | (simp only [← hji6, ← hji7]; first | rfl | (simp [errW_none, errW_some] <;> rfl)) | (simp [*, errW_none, errW_some] <;> rfl), by repeat (first | (with_reducible first | exact HB.out | apply below_alloc | apply pw_below_drewN | apply below_drew1) | exact HB.out)⟩
                            · rw [if_neg c135] at H
                              have c135b0 : (a3 == 0) = false := beq_eq_false_iff_ne.mpr c135
                              have c135b1 : (a3 != 0) = true := bne_iff_ne.mpr c135
                              replace H := Option.bind_eq_some_iff.mp H
                              obtain ⟨t177, A1380, H⟩ := H
                              replace H : ((vector_Lead.f yc21).bind fun t178 => (if t177 = t178 then ((braidworklaw02_wakes.f kj83).bind fun t179 => (some t179)) else (none))) = some r := H
                              have A138 := Aside0.mk A1380
                              clear A1380
                              replace H := Option.bind_eq_some_iff.mp H
                              obtain ⟨t178, A1390, H⟩ := H
                              replace H : (if t177 = t178 then ((braidworklaw02_wakes.f kj83).bind fun t179 => (some t179)) else (none)) = some r := H
                              have A139 := Aside0.mk A1390
                              clear A1390
                              by_cases c140 : t177 = t178
                              · rw [if_pos c140] at H
                                have c140b0 : (t177 == t178) = true := beq_iff_eq.mpr c140
                                have c140b1 : (t177 != t178) = false := bne_eq_false_iff_eq.mpr c140
                                clear c140
                                replace H := Option.bind_eq_some_iff.mp H
                                obtain ⟨t179, A1410, H⟩ := H
                                replace H : (some t179) = some r := H
                                have A141 := Aside0.mk A1410
                                clear A1410
                                obtain rfl := Option.some.inj H
                                go_wp2_with (first | (go_at_call 21; (with_reducible refine (vector_Lead.calls _ _ t130 t177 _ ?side1 ?side2 A138.out).mono ?_); (case side1 => repeat (first | exact (Kd.V_reads' HO_24.out).2.2 | (with_reducible refine Kd.C_alloc ?_ _) | (with_reducible refine Kd.C_drewN ?_ _) | (with_reducible refine Kd.C_drew ?_))); (case side2 => exact (Kd.V_reads' HO_24.out).2.1); rintro e w' ⟨rfl, ⟨nd, rfl⟩⟩; (try first | exact ⟨rfl, _, World.drewN_drewN _ _ _⟩ | exact ⟨rfl, _, Eq.trans (World.drewN_drewN _ _ _) (congrArg (World.drewN _) (Nat.add_assoc _ _ _))⟩)) | (go_at_call 21; (with_reducible refine (vector_Lead.calls _ _ yc21 t178 _ ?side1 ?side2 A139.out).mono ?_); (case side1 => repeat (first | exact (Kd.C_below HR102.out (by repeat (first | (with_reducible first | exact HB.out | apply below_alloc | apply pw_below_drewN | apply below_drew1) | exact HB.out))) | (with_reducible refine Kd.C_alloc ?_ _) | (with_reducible refine Kd.C_drewN ?_ _) | (with_reducible refine Kd.C_drew ?_))); (case side2 => exact HC102.out); rintro e w' ⟨rfl, ⟨nd, rfl⟩⟩; (try first | exact ⟨rfl, _, World.drewN_drewN _ _ _⟩ | exact ⟨rfl, _, Eq.trans (World.drewN_drewN _ _ _) (congrArg (World.drewN _) (Nat.add_assoc _ _ _))⟩)) | (go_at_call 10; (with_reducible refine (braidworklaw02_wakes.calls kj83  t179 _ A141.out).mono ?_); rintro e w142 ⟨rfl, hb⟩; have n0_ := Aside0.mk (Kd.V_below (by (with_reducible repeat (first | apply Kd.V_alloc | apply Kd.V_drewN | apply Kd.V_drew)); exact HO_24.out) hb); have n1_ := Aside0.mk (below_step (by repeat (first | (with_reducible first | exact HB.out | apply below_alloc | apply pw_below_drewN | apply below_drew1) | exact HB.out)) hb); clear HO_24; clear HB; have HO_24 := n0_; have HB := n1_; clear n0_ n1_; (try clear hb); (try clear hb2); (try clear hk); (try clear hi)))
                                repeat (go_quiet (first | (go_at_call 21; (with_reducible refine (vector_Lead.calls _ _ t130 t177 _ ?side1 ?side2 A138.out).mono ?_); (case side1 => repeat (first | exact (Kd.V_reads' HO_24.out).2.2 | (with_reducible refine Kd.C_alloc ?_ _) | (with_reducible refine Kd.C_drewN ?_ _) | (with_reducible refine Kd.C_drew ?_))); (case side2 => exact (Kd.V_reads' HO_24.out).2.1); rintro e w' ⟨rfl, ⟨nd, rfl⟩⟩; (try first | exact ⟨rfl, _, World.drewN_drewN _ _ _⟩ | exact ⟨rfl, _, Eq.trans (World.drewN_drewN _ _ _) (congrArg (World.drewN _) (Nat.add_assoc _ _ _))⟩)) | (go_at_call 21; (with_reducible refine (vector_Lead.calls _ _ yc21 t178 _ ?side1 ?side2 A139.out).mono ?_); (case side1 => repeat (first | exact (Kd.C_below HR102.out (by repeat (first | (with_reducible first | exact HB.out | apply below_alloc | apply pw_below_drewN | apply below_drew1) | exact HB.out))) | (with_reducible refine Kd.C_alloc ?_ _) | (with_reducible refine Kd.C_drewN ?_ _) | (with_reducible refine Kd.C_drew ?_))); (case side2 => exact HC102.out); rintro e w' ⟨rfl, ⟨nd, rfl⟩⟩; (try first | exact ⟨rfl, _, World.drewN_drewN _ _ _⟩ | exact ⟨rfl, _, Eq.trans (World.drewN_drewN _ _ _) (congrArg (World.drewN _) (Nat.add_assoc _ _ _))⟩)) | (go_at_call 10; (with_reducible refine (braidworklaw02_wakes.calls kj83  t179 _ A141.out).mono ?_); rintro e w142 ⟨rfl, hb⟩; have n0_ := Aside0.mk (Kd.V_below (by (with_reducible repeat (first | apply Kd.V_alloc | apply Kd.V_drewN | apply Kd.V_drew)); exact HO_24.out) hb); have n1_ := Aside0.mk (below_step (by repeat (first | (with_reducible first | exact HB.out | apply below_alloc | apply pw_below_drewN | apply below_drew1) | exact HB.out)) hb); clear HO_24; clear HB; have HO_24 := n0_; have HB := n1_; clear n0_ n1_; (try clear hb); (try clear hb2); (try clear hk); (try clear hi))); try go_wp2_with (first | (go_at_call 21; (with_reducible refine (vector_Lead.calls _ _ t130 t177 _ ?side1 ?side2 A138.out).mono ?_); (case side1 => repeat (first | exact (Kd.V_reads' HO_24.out).2.2 | (with_reducible refine Kd.C_alloc ?_ _) | (with_reducible refine Kd.C_drewN ?_ _) | (with_reducible refine Kd.C_drew ?_))); (case side2 => exact (Kd.V_reads' HO_24.out).2.1); rintro e w' ⟨rfl, ⟨nd, rfl⟩⟩; (try first | exact ⟨rfl, _, World.drewN_drewN _ _ _⟩ | exact ⟨rfl, _, Eq.trans (World.drewN_drewN _ _ _) (congrArg (World.drewN _) (Nat.add_assoc _ _ _))⟩)) | (go_at_call 21; (with_reducible refine (vector_Lead.calls _ _ yc21 t178 _ ?side1 ?side2 A139.out).mono ?_); (case side1 => repeat (first | exact (Kd.C_below HR102.out (by repeat (first | (with_reducible first | exact HB.out | apply below_alloc | apply pw_below_drewN | apply below_drew1) | exact HB.out))) | (with_reducible refine Kd.C_alloc ?_ _) | (with_reducible refine Kd.C_drewN ?_ _) | (with_reducible refine Kd.C_drew ?_))); (case side2 => exact HC102.out); rintro e w' ⟨rfl, ⟨nd, rfl⟩⟩; (try first | exact ⟨rfl, _, World.drewN_drewN _ _ _⟩ | exact ⟨rfl, _, Eq.trans (World.drewN_drewN _ _ _) (congrArg (World.drewN _) (Nat.add_assoc _ _ _))⟩)) | (go_at_call 10; (with_reducible refine (braidworklaw02_wakes.calls kj83  t179 _ A141.out).mono ?_); rintro e w142 ⟨rfl, hb⟩; have n0_ := Aside0.mk (Kd.V_below (by (with_reducible repeat (first | apply Kd.V_alloc | apply Kd.V_drewN | apply Kd.V_drew)); exact HO_24.out) hb); have n1_ := Aside0.mk (below_step (by repeat (first | (with_reducible first | exact HB.out | apply below_alloc | apply pw_below_drewN | apply below_drew1) | exact HB.out)) hb); clear HO_24; clear HB; have HO_24 := n0_; have HB := n1_; clear n0_ n1_; (try clear hb); (try clear hb2); (try clear hk); (try clear hi))))
                                go_ret
                                exact ⟨by first | rfl | (simp [errW_none, errW_some] <;> rfl) | (simp only [← hji6, ← hji7]; first | rfl | (simp [errW_none, errW_some] <;> rfl)) | (simp [*, errW_none, errW_some] <;> rfl), by repeat (first | (with_reducible first | exact HB.out | apply below_alloc | apply pw_below_drewN | apply below_drew1) | exact HB.out)⟩
                              · rw [if_neg c140] at H
                                exact absurd H (by simp)
        · rw [if_neg c13] at H
          exact absurd H (by simp)
      · rw [if_neg c11] at H
        exact absurd H (by simp)
    · rw [if_neg c9] at H
      exact absurd H (by simp)
  · rw [if_neg c8] at H
    exact absurd H (by simp)

end Go.Proofs.Ytpipmhofekfkgaa.PS
