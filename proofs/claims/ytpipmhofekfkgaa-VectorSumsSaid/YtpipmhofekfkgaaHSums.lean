/- The walk of the law VectorSums. -/
import Derived.Test.YtpipmhofekfkgaaPlSums
import Derived.Test.YtpipmhofekfkgaaHMore
set_option linter.unusedVariables false
set_option linter.unusedSimpArgs false
namespace Go.Proofs.Ytpipmhofekfkgaa.Plain
open Go.Proofs.Ytpipmhofekfkgaa.Hand Go.Proofs.Ytpipmhofekfkgaa.GF Go.Proofs.Ytpipmhofekfkgaa.LA Go.RowKit Go.Proofs.Ytpipmhofekfkgaa.P Go.Proofs.YtpipmhofekfkgaaW.PrintWords Go.Proofs.YtpipmhofekfkgaaW.PrintLast Go.Proofs.YtpipmhofekfkgaaW.PrintMore
/-- n bytes of the call's own, whatever they are -/
def Row8 (W : World) (b : Nat) (v : Value) (n : Nat) : Prop := ∃ A c, v = .slice A n c ∧ (0 < n → ∃ g cells, A = some ⟨g, 0, none⟩ ∧ b ≤ g ∧ W.heap[g]? = some (.cells cells 5 (0, 0)) ∧ ∀ i, i < n → ∃ x, cells[i]? = some (.int .u8 x))
theorem Row8.of_R {W : World} {b : Nat} {ok : Nat → Prop} {v : Value} {xs : List Int} (h : Kd.R (Kd.int .u8) 5 W b ok v xs) : Row8 W b v xs.length := by
  obtain ⟨A, c, rfl⟩ := Kd.R_slice h
  refine ⟨A, c, rfl, fun hp => ?_⟩
  obtain ⟨g, cap, e, hg, _, cells, hc⟩ := Kd.R_form h hp
  injection e with e1 e2 e3
  subst e1 e3
  refine ⟨g, cells, rfl, hg, hc, fun i hi => ?_⟩
  have := (Kd.R_celln (0 : Int) h (i : Int) (by omega) (by omega)).1
  rw [Int.toNat_natCast] at this
  simp [World.cell?, hc] at this
  exact ⟨_, this⟩
theorem Row8.step {W W' : World} {b : Nat} {v : Value} {n : Nat} (h : Row8 W b v n) (hb : Below W.heap.size W W') : Row8 W' b v n := by
  obtain ⟨A, c, rfl, h⟩ := h
  refine ⟨A, c, rfl, fun hp => ?_⟩
  obtain ⟨g, cells, e, hg, hc, hx⟩ := h hp
  refine ⟨g, cells, e, hg, (hb.block g ?_).trans hc, hx⟩
  rcases Nat.lt_or_ge g W.heap.size with q | q
  · exact q
  · rw [Array.getElem?_eq_none q] at hc; cases hc
theorem Row8.set {W : World} {b : Nat} {v : Value} {n : Nat} (h : Row8 W b v n) (g' j : Nat) (y : Int) : Row8 (W.setCell ⟨g', j, none⟩ (.int .u8 y)) b v n := by
  obtain ⟨A, c, rfl, h⟩ := h
  refine ⟨A, c, rfl, fun hp => ?_⟩
  obtain ⟨g, cells, e, hg, hc, hx⟩ := h hp
  by_cases q : g = g'
  · subst q
    refine ⟨g, cells.setIfInBounds j (.int .u8 y), e, hg, ?_, fun i hi => ?_⟩
    · simp only [World.setCell, Array.getElem?_modify, if_true, hc, Option.map_some]
      simp
    · obtain ⟨x, hx⟩ := hx i hi
      by_cases r : j = i
      · subst r
        have hlt : j < cells.size := by
          rcases Nat.lt_or_ge j cells.size with q | q
          · exact q
          · rw [Array.getElem?_eq_none q] at hx; cases hx
        exact ⟨y, by simp [hlt]⟩
      · exact ⟨x, by rw [Array.getElem?_setIfInBounds_ne r]; exact hx⟩
  · exact ⟨g, cells, e, hg, (Below.heap_setCell _ _ _ _ q).trans hc, hx⟩
theorem Row8.get {W : World} {b : Nat} {v : Value} {n i : Nat} (h : Row8 W b v n) (hi : i < n) : ∃ g c x, v = .slice (some ⟨g, 0, none⟩) n c ∧ b ≤ g ∧ W.cell? ⟨g, i, none⟩ = some (.int .u8 x) ∧ W.frozen? ⟨g, i, none⟩ = false := by
  obtain ⟨A, c, rfl, h⟩ := h
  obtain ⟨g, cells, rfl, hg, hc, hx⟩ := h (by omega)
  obtain ⟨x, hx⟩ := hx i hi
  exact ⟨g, c, x, rfl, hg, by simp [World.cell?, hc, hx], by simp [World.frozen?, hc]⟩
theorem idx0 (A B C : Option Addr) (a a' b b' c c' : Nat) (W : World) : (Instr.index 42 (.agg #[.slice A a a', .slice B b b', .slice C c c']) (.int .i64 0)).run Try.prog W = .ok (.slice A a a') W := by simp [Instr.index, asIntOf, part]
theorem idx1 (A B C : Option Addr) (a a' b b' c c' : Nat) (W : World) : (Instr.index 42 (.agg #[.slice A a a', .slice B b b', .slice C c c']) (.int .i64 1)).run Try.prog W = .ok (.slice B b b') W := by simp [Instr.index, asIntOf, part]
theorem idx2 (A B C : Option Addr) (a a' b b' c c' : Nat) (W : World) : (Instr.index 42 (.agg #[.slice A a a', .slice B b b', .slice C c c']) (.int .i64 2)).run Try.prog W = .ok (.slice C c c') W := by simp [Instr.index, asIntOf, part]
set_option maxHeartbeats 4000000 in
set_option maxRecDepth 100000 in
theorem sums_walk (A0 : Option Addr) (c0 : Nat) (l0 : List Int) (A1 : Option Addr) (c1 : Nat) (l1 : List Int) (a2 : Int) (w : World) (Hl0 : Aside0 (Kd.C (Kd.int .u8) w A0 l0.length l0)) (Cl0 : Aside0 (l0.length ≤ c0)) (Hl1 : Aside0 (Kd.C (Kd.int .u8) w A1 l1.length l1)) (Cl1 : Aside0 (l1.length ≤ c1))
    (l : List Int) (e : Int) (n : List Int) (g p i : Int) (s : List Int) (d : Int) (k : Nat) (F1 : Aside0 (vector_Add.f l0 l1 = some (l, e))) (F2 : Aside0 (braidworkref02_Add.f k l0 l1 = some (l, e))) (F3 : Aside0 (vector_AddScaled.f l0 l1 a2 = some (n, g))) (F4 : Aside0 (braidworkref02_AddScaled.f k l0 l1 a2 = some (n, g)))
    (F5 : Aside0 (vector_Dot.f l0 l1 = some (p, i))) (F6 : Aside0 (braidworkref02_Dot.f k l0 l1 = some (p, i))) (F7 : Aside0 (vector_Scale.f l0 a2 = some s)) (F8 : Aside0 (braidworkref02_Scale.f k l0 a2 = some s)) (F9 : Aside0 (vector_Lead.f l0 = some d)) (F10 : Aside0 (braidworkref02_Lead.f k l0 = some d)) (F11 : Aside0 (vector_IsZero.f l0 = some (decide (d < 0))))
    (O1 : Aside0 (braidworklaw02_own.f l0 = some l0)) (O2 : Aside0 (braidworklaw02_own.f l1 = some l1)) (HLEN : Aside0 (l.length ≤ 140737488351232 ∧ n.length ≤ 140737488351232 ∧ s.length ≤ 140737488351232)) :
    Calls Try.prog 4 #[.slice A0 l0.length c0, .slice A1 l1.length c1, .int .u8 a2] w fun e w' => e = .returned (.bool true) ∧ Below w.heap.size w w' := by
  have HB := Aside0.mk (Below.refl w.heap.size w)
  go_enter Try.func4, Try.ntmps4
  go_upto_region 2 with (first
    | (go_at_call 13; with_reducible refine (braidworklaw02_own.calls A0 c0 l0 l0 _ Hl0.out Cl0.out O1.out).mono ?_; rintro e w1 ⟨v_, rfl, ho_, hb⟩; obtain ⟨AX, cX, rfl⟩ := Kd.R_slice ho_; have HX := Aside0.mk (Kd.R_reads' ho_).2.2; have CX := Aside0.mk (Kd.R_reads' ho_).2.1; clear ho_; replace Hl0 := Aside0.mk (Kd.C_below Hl0.out hb); replace Hl1 := Aside0.mk (Kd.C_below Hl1.out hb); replace HB := Aside0.mk (HB.out.trans (hb.mono HB.out.size)); clear hb)
    | (go_at_call 13; with_reducible refine (braidworklaw02_own.calls A1 c1 l1 l1 _ Hl1.out Cl1.out O2.out).mono ?_; rintro e w2 ⟨v_, rfl, ho_, hb⟩; obtain ⟨AY, cY, rfl⟩ := Kd.R_slice ho_; have HY := Aside0.mk (Kd.R_reads' ho_).2.2; have CY := Aside0.mk (Kd.R_reads' ho_).2.1; clear ho_; replace HX := Aside0.mk (Kd.C_below HX.out hb); replace Hl0 := Aside0.mk (Kd.C_below Hl0.out hb); replace Hl1 := Aside0.mk (Kd.C_below Hl1.out hb); replace HB := Aside0.mk (HB.out.trans (hb.mono HB.out.size)); clear hb))
  have HB0 := HB
  clear HB
  have HB := Aside0.mk (Below.refl w2.heap.size w2)
  have HX2 := HX
  have HY2 := HY
  have HA2 := Hl0
  have HC2 := Hl1
  go_upto_region 3 with (first
    | (go_at_call 14; with_reducible refine (vector_Add.calls AX cX l0 AY cY l1 l e _ HX.out CX.out HY.out CY.out F1.out).mono ?_; rintro e w' ⟨v_, rfl, ho_, hb⟩; obtain ⟨AL, cL, rfl⟩ := Kd.R_slice ho_; have HL := Aside0.mk (Kd.R_reads' ho_).2.2; have CL := Aside0.mk (Kd.R_reads' ho_).2.1; have QL := Aside0.mk (Row8.of_R (Kd.R_lower ho_ HB.out.size)); clear ho_; replace HX := Aside0.mk (Kd.C_below HX.out hb); replace HY := Aside0.mk (Kd.C_below HY.out hb); replace Hl0 := Aside0.mk (Kd.C_below Hl0.out hb); replace Hl1 := Aside0.mk (Kd.C_below Hl1.out hb); replace HB := Aside0.mk (HB.out.trans (hb.mono HB.out.size)); clear hb))
  go_upto_region 4 with (first
    | (go_at_call 15; with_reducible refine (braidworkref02_Add.calls k A0 c0 l0 A1 c1 l1 l e _ Hl0.out Cl0.out Hl1.out Cl1.out F2.out).mono ?_; rintro e w' ⟨v_, rfl, ho_, hb⟩; obtain ⟨AM, cM, rfl⟩ := Kd.R_slice ho_; have HM := Aside0.mk (Kd.R_reads' ho_).2.2; have CM := Aside0.mk (Kd.R_reads' ho_).2.1; clear ho_; replace QL := Aside0.mk (QL.out.step hb); replace HX := Aside0.mk (Kd.C_below HX.out hb); replace HY := Aside0.mk (Kd.C_below HY.out hb); replace Hl0 := Aside0.mk (Kd.C_below Hl0.out hb); replace Hl1 := Aside0.mk (Kd.C_below Hl1.out hb); replace HL := Aside0.mk (Kd.C_below HL.out hb); replace HB := Aside0.mk (HB.out.trans (hb.mono HB.out.size)); clear hb))
  go_upto_region 5 with (first
    | (go_at_call 16; with_reducible refine (vector_AddScaled.calls AX cX l0 AY cY l1 a2 n g _ HX.out CX.out HY.out CY.out F3.out).mono ?_; rintro e w' ⟨v_, rfl, ho_, hb⟩; obtain ⟨AN, cN, rfl⟩ := Kd.R_slice ho_; have HN := Aside0.mk (Kd.R_reads' ho_).2.2; have CN := Aside0.mk (Kd.R_reads' ho_).2.1; have QN := Aside0.mk (Row8.of_R (Kd.R_lower ho_ HB.out.size)); clear ho_; replace QL := Aside0.mk (QL.out.step hb); replace HX := Aside0.mk (Kd.C_below HX.out hb); replace HY := Aside0.mk (Kd.C_below HY.out hb); replace Hl0 := Aside0.mk (Kd.C_below Hl0.out hb); replace Hl1 := Aside0.mk (Kd.C_below Hl1.out hb); replace HL := Aside0.mk (Kd.C_below HL.out hb); replace HM := Aside0.mk (Kd.C_below HM.out hb); replace HB := Aside0.mk (HB.out.trans (hb.mono HB.out.size)); clear hb))
  go_upto_region 6 with (first
    | (go_at_call 17; with_reducible refine (braidworkref02_AddScaled.calls k A0 c0 l0 A1 c1 l1 a2 n g _ Hl0.out Cl0.out Hl1.out Cl1.out F4.out).mono ?_; rintro e w' ⟨v_, rfl, ho_, hb⟩; obtain ⟨AO, cO, rfl⟩ := Kd.R_slice ho_; have HO := Aside0.mk (Kd.R_reads' ho_).2.2; have CO := Aside0.mk (Kd.R_reads' ho_).2.1; clear ho_; replace QL := Aside0.mk (QL.out.step hb); replace QN := Aside0.mk (QN.out.step hb); replace HX := Aside0.mk (Kd.C_below HX.out hb); replace HY := Aside0.mk (Kd.C_below HY.out hb); replace Hl0 := Aside0.mk (Kd.C_below Hl0.out hb); replace Hl1 := Aside0.mk (Kd.C_below Hl1.out hb); replace HL := Aside0.mk (Kd.C_below HL.out hb); replace HM := Aside0.mk (Kd.C_below HM.out hb); replace HN := Aside0.mk (Kd.C_below HN.out hb); replace HB := Aside0.mk (HB.out.trans (hb.mono HB.out.size)); clear hb))
  go_upto_region 7 with (first
    | (go_at_call 11; with_reducible refine (vector_Dot.calls AX cX l0 AY cY l1 p i _ HX.out CX.out HY.out CY.out F5.out).mono ?_; rintro e w' ⟨rfl, hb⟩; replace QL := Aside0.mk (QL.out.step hb); replace QN := Aside0.mk (QN.out.step hb); replace HX := Aside0.mk (Kd.C_below HX.out hb); replace HY := Aside0.mk (Kd.C_below HY.out hb); replace Hl0 := Aside0.mk (Kd.C_below Hl0.out hb); replace Hl1 := Aside0.mk (Kd.C_below Hl1.out hb); replace HL := Aside0.mk (Kd.C_below HL.out hb); replace HM := Aside0.mk (Kd.C_below HM.out hb); replace HN := Aside0.mk (Kd.C_below HN.out hb); replace HO := Aside0.mk (Kd.C_below HO.out hb); replace HB := Aside0.mk (HB.out.trans (hb.mono HB.out.size)); clear hb))
  go_upto_region 8 with (first
    | (go_at_call 18; with_reducible refine (braidworkref02_Dot.calls k A0 c0 l0 A1 c1 l1 p i _ Hl0.out Cl0.out Hl1.out Cl1.out F6.out).mono ?_; rintro e w' ⟨rfl, hd⟩; have hb := hd.below; clear hd; replace QL := Aside0.mk (QL.out.step hb); replace QN := Aside0.mk (QN.out.step hb); replace HX := Aside0.mk (Kd.C_below HX.out hb); replace HY := Aside0.mk (Kd.C_below HY.out hb); replace Hl0 := Aside0.mk (Kd.C_below Hl0.out hb); replace Hl1 := Aside0.mk (Kd.C_below Hl1.out hb); replace HL := Aside0.mk (Kd.C_below HL.out hb); replace HM := Aside0.mk (Kd.C_below HM.out hb); replace HN := Aside0.mk (Kd.C_below HN.out hb); replace HO := Aside0.mk (Kd.C_below HO.out hb); replace HB := Aside0.mk (HB.out.trans (hb.mono HB.out.size)); clear hb))
  go_upto_region 9 with (first
    | (go_at_call 19; with_reducible refine (vector_Scale.calls AX cX l0 a2 s _ HX.out CX.out F7.out).mono ?_; rintro e w' ⟨v_, rfl, ho_, hb⟩; obtain ⟨AS, cS, rfl⟩ := Kd.R_slice ho_; have HS := Aside0.mk (Kd.R_reads' ho_).2.2; have CS := Aside0.mk (Kd.R_reads' ho_).2.1; have QS := Aside0.mk (Row8.of_R (Kd.R_lower ho_ HB.out.size)); clear ho_; replace QL := Aside0.mk (QL.out.step hb); replace QN := Aside0.mk (QN.out.step hb); replace HX := Aside0.mk (Kd.C_below HX.out hb); replace HY := Aside0.mk (Kd.C_below HY.out hb); replace Hl0 := Aside0.mk (Kd.C_below Hl0.out hb); replace Hl1 := Aside0.mk (Kd.C_below Hl1.out hb); replace HL := Aside0.mk (Kd.C_below HL.out hb); replace HM := Aside0.mk (Kd.C_below HM.out hb); replace HN := Aside0.mk (Kd.C_below HN.out hb); replace HO := Aside0.mk (Kd.C_below HO.out hb); replace HB := Aside0.mk (HB.out.trans (hb.mono HB.out.size)); clear hb))
  refine startG_ (n := 57) #[false, false, false, false, false, false, false, false, false, false, false, false, false, false, false, false, false, false, false, false, false, false, false, false, false, false, false, false, false, false, false, false, false, false, false, false, false, false, false, false, false, false, false, false, false, false, false, false, false, false, false, false, false, false, false, false, false] (by kernel_rfl) rfl rfl (fun wD hbD => ?_)
  have hb := hbD
  replace HB := Aside0.mk (HB.out.trans (hb.mono HB.out.size))
  replace HX := Aside0.mk (Kd.C_below HX.out hb)
  replace HY := Aside0.mk (Kd.C_below HY.out hb)
  replace Hl0 := Aside0.mk (Kd.C_below Hl0.out hb)
  replace Hl1 := Aside0.mk (Kd.C_below Hl1.out hb)
  replace HL := Aside0.mk (Kd.C_below HL.out hb)
  replace HM := Aside0.mk (Kd.C_below HM.out hb)
  replace HN := Aside0.mk (Kd.C_below HN.out hb)
  replace HO := Aside0.mk (Kd.C_below HO.out hb)
  replace HS := Aside0.mk (Kd.C_below HS.out hb)
  replace QL := Aside0.mk (QL.out.step hb)
  replace QN := Aside0.mk (QN.out.step hb)
  replace QS := Aside0.mk (QS.out.step hb)
  clear hb hbD
  refine pure_ (i := 0) (N := some 71) (v := ?_) (a' := ?_) #[true, false, false, false, false, false, false, false, false, false, false, false, false, false, false, false, false, false, false, false, false, false, false, false, false, false, false, false, false, false, false, false, false, false, false, false, false, false, false, false, false, false, false, false, false, false, false, false, false, false, false, false, false, false, false, false, false] rfl rfl (by kernel_rfl) (fun _ _ _ h => h) (Or.inl ⟨by rfl, ?_⟩) ?_ ?_
  rotate_left
  · intro w' 
    go_simp
    with_reducible rfl
  rotate_left
  · simp only [Act.put, List.setIfInBounds_toArray, List.set_cons_zero, List.set_cons_succ, i64_w, i32_w]
    rfl
  refine pure_ (i := 2) (N := some 73) (v := ?_) (a' := ?_) #[true, false, true, false, false, false, false, false, false, false, false, false, false, false, false, false, false, false, false, false, false, false, false, false, false, false, false, false, false, false, false, false, false, false, false, false, false, false, false, false, false, false, false, false, false, false, false, false, false, false, false, false, false, false, false, false, false] rfl rfl (by kernel_rfl) (fun _ _ _ h => h) (Or.inl ⟨by rfl, ?_⟩) ?_ ?_
  rotate_left
  · intro w' 
    go_simp
    with_reducible rfl
  rotate_left
  · simp only [Act.put, List.setIfInBounds_toArray, List.set_cons_zero, List.set_cons_succ, i64_w, i32_w]
    rfl
  refine readB_ (i := 1) (N := some 72) (v := ?_) (a' := ?_) #[true, true, true, false, false, false, false, false, false, false, false, false, false, false, false, false, false, false, false, false, false, false, false, false, false, false, false, false, false, false, false, false, false, false, false, false, false, false, false, false, false, false, false, false, false, false, false, false, false, false, false, false, false, false, false, false, false] rfl rfl (by kernel_rfl) (fun _ _ _ h => h) (Or.inl ⟨by rfl, ?_⟩) ?_ ?_
  rotate_left
  · intro w' s0
    have hq_ := Kd.C_string (P := Try.prog) (A := AL) (c := cL) Try.underlying23 Try.underlying5 Try.underlying9 (Kd.C_below HL.out s0)
    refine (conv_run rfl hq_ (by rfl)).trans ?_
    with_reducible rfl
  rotate_left
  · simp only [Act.put, List.setIfInBounds_toArray, List.set_cons_zero, List.set_cons_succ, i64_w, i32_w]
    rfl
  refine readB_ (i := 3) (N := some 74) (v := ?_) (a' := ?_) #[true, true, true, true, false, false, false, false, false, false, false, false, false, false, false, false, false, false, false, false, false, false, false, false, false, false, false, false, false, false, false, false, false, false, false, false, false, false, false, false, false, false, false, false, false, false, false, false, false, false, false, false, false, false, false, false, false] rfl rfl (by kernel_rfl) (fun _ _ _ h => h) (Or.inl ⟨by rfl, ?_⟩) ?_ ?_
  rotate_left
  · intro w' s0
    have hq_ := Kd.C_string (P := Try.prog) (A := AM) (c := cM) Try.underlying23 Try.underlying5 Try.underlying9 (Kd.C_below HM.out s0)
    refine (conv_run rfl hq_ (by rfl)).trans ?_
    with_reducible rfl
  rotate_left
  · simp only [Act.put, List.setIfInBounds_toArray, List.set_cons_zero, List.set_cons_succ, i64_w, i32_w]
    rfl
  refine pure_ (i := 4) (N := some 75) (v := ?_) (a' := ?_) #[true, true, true, true, true, false, false, false, false, false, false, false, false, false, false, false, false, false, false, false, false, false, false, false, false, false, false, false, false, false, false, false, false, false, false, false, false, false, false, false, false, false, false, false, false, false, false, false, false, false, false, false, false, false, false, false, false] rfl rfl (by kernel_rfl) (fun _ _ _ h => h) (Or.inl ⟨by rfl, ?_⟩) ?_ ?_
  rotate_left
  · intro w' 
    go_simp
    with_reducible rfl
  rotate_left
  · simp only [Act.put, List.setIfInBounds_toArray, List.set_cons_zero, List.set_cons_succ, i64_w, i32_w]
    rfl
  refine pure_ (i := 5) (N := some 76) (v := ?_) (a' := ?_) #[true, true, true, true, true, true, false, false, false, false, false, false, false, false, false, false, false, false, false, false, false, false, false, false, false, false, false, false, false, false, false, false, false, false, false, false, false, false, false, false, false, false, false, false, false, false, false, false, false, false, false, false, false, false, false, false, false] rfl rfl (by kernel_rfl) (fun _ _ _ h => h) (Or.inl ⟨by rfl, ?_⟩) ?_ ?_
  rotate_left
  · intro w' 
    go_simp
    with_reducible rfl
  rotate_left
  · simp only [Act.put, List.setIfInBounds_toArray, List.set_cons_zero, List.set_cons_succ, i64_w, i32_w]
    rfl
  refine pure_ (i := 6) (N := some 77) (v := ?_) (a' := ?_) #[true, true, true, true, true, true, true, false, false, false, false, false, false, false, false, false, false, false, false, false, false, false, false, false, false, false, false, false, false, false, false, false, false, false, false, false, false, false, false, false, false, false, false, false, false, false, false, false, false, false, false, false, false, false, false, false, false] rfl rfl (by kernel_rfl) (fun _ _ _ h => h) (Or.inl ⟨by rfl, ?_⟩) ?_ ?_
  rotate_left
  · intro w' 
    go_simp
    with_reducible rfl
  rotate_left
  · simp only [Act.put, List.setIfInBounds_toArray, List.set_cons_zero, List.set_cons_succ, i64_w, i32_w]
    rfl
  refine pure_ (i := 7) (N := some 78) (v := ?_) (a' := ?_) #[true, true, true, true, true, true, true, true, false, false, false, false, false, false, false, false, false, false, false, false, false, false, false, false, false, false, false, false, false, false, false, false, false, false, false, false, false, false, false, false, false, false, false, false, false, false, false, false, false, false, false, false, false, false, false, false, false] rfl rfl (by kernel_rfl) (fun _ _ _ h => h) (Or.inl ⟨by rfl, ?_⟩) ?_ ?_
  rotate_left
  · intro w' 
    go_simp
    with_reducible rfl
  rotate_left
  · simp only [Act.put, List.setIfInBounds_toArray, List.set_cons_zero, List.set_cons_succ, i64_w, i32_w]
    rfl
  refine pure_ (i := 8) (N := some 79) (v := ?_) (a' := ?_) #[true, true, true, true, true, true, true, true, true, false, false, false, false, false, false, false, false, false, false, false, false, false, false, false, false, false, false, false, false, false, false, false, false, false, false, false, false, false, false, false, false, false, false, false, false, false, false, false, false, false, false, false, false, false, false, false, false] rfl rfl (by kernel_rfl) (fun _ _ _ h => h) (Or.inl ⟨by rfl, ?_⟩) ?_ ?_
  rotate_left
  · intro w' 
    go_simp
    with_reducible rfl
  rotate_left
  · simp only [Act.put, List.setIfInBounds_toArray, List.set_cons_zero, List.set_cons_succ, i64_w, i32_w]
    rfl
  refine pure_ (i := 9) (N := some 80) (v := ?_) (a' := ?_) #[true, true, true, true, true, true, true, true, true, true, false, false, false, false, false, false, false, false, false, false, false, false, false, false, false, false, false, false, false, false, false, false, false, false, false, false, false, false, false, false, false, false, false, false, false, false, false, false, false, false, false, false, false, false, false, false, false] rfl rfl (by kernel_rfl) (fun _ _ _ h => h) (Or.inl ⟨by rfl, ?_⟩) ?_ ?_
  rotate_left
  · intro w' 
    go_simp
    with_reducible rfl
  rotate_left
  · simp only [Act.put, List.setIfInBounds_toArray, List.set_cons_zero, List.set_cons_succ, i64_w, i32_w]
    rfl
  refine pure_ (i := 10) (N := some 81) (v := ?_) (a' := ?_) #[true, true, true, true, true, true, true, true, true, true, true, false, false, false, false, false, false, false, false, false, false, false, false, false, false, false, false, false, false, false, false, false, false, false, false, false, false, false, false, false, false, false, false, false, false, false, false, false, false, false, false, false, false, false, false, false, false] rfl rfl (by kernel_rfl) (fun _ _ _ h => h) (Or.inl ⟨by rfl, ?_⟩) ?_ ?_
  rotate_left
  · intro w' 
    go_simp
    with_reducible rfl
  rotate_left
  · simp only [Act.put, List.setIfInBounds_toArray, List.set_cons_zero, List.set_cons_succ, i64_w, i32_w]
    rfl
  refine pure_ (i := 11) (N := some 82) (v := ?_) (a' := ?_) #[true, true, true, true, true, true, true, true, true, true, true, true, false, false, false, false, false, false, false, false, false, false, false, false, false, false, false, false, false, false, false, false, false, false, false, false, false, false, false, false, false, false, false, false, false, false, false, false, false, false, false, false, false, false, false, false, false] rfl rfl (by kernel_rfl) (fun _ _ _ h => h) (Or.inl ⟨by rfl, ?_⟩) ?_ ?_
  rotate_left
  · intro w' 
    go_simp
    with_reducible rfl
  rotate_left
  · simp only [Act.put, List.setIfInBounds_toArray, List.set_cons_zero, List.set_cons_succ, i64_w, i32_w]
    rfl
  refine pure_ (i := 13) (N := some 84) (v := ?_) (a' := ?_) #[true, true, true, true, true, true, true, true, true, true, true, true, false, true, false, false, false, false, false, false, false, false, false, false, false, false, false, false, false, false, false, false, false, false, false, false, false, false, false, false, false, false, false, false, false, false, false, false, false, false, false, false, false, false, false, false, false] rfl rfl (by kernel_rfl) (fun _ _ _ h => h) (Or.inl ⟨by rfl, ?_⟩) ?_ ?_
  rotate_left
  · intro w' 
    go_simp
    with_reducible rfl
  rotate_left
  · simp only [Act.put, List.setIfInBounds_toArray, List.set_cons_zero, List.set_cons_succ, i64_w, i32_w]
    rfl
  refine readB_ (i := 12) (N := some 83) (v := ?_) (a' := ?_) #[true, true, true, true, true, true, true, true, true, true, true, true, true, true, false, false, false, false, false, false, false, false, false, false, false, false, false, false, false, false, false, false, false, false, false, false, false, false, false, false, false, false, false, false, false, false, false, false, false, false, false, false, false, false, false, false, false] rfl rfl (by kernel_rfl) (fun _ _ _ h => h) (Or.inl ⟨by rfl, ?_⟩) ?_ ?_
  rotate_left
  · intro w' s0
    have hq_ := Kd.C_string (P := Try.prog) (A := AN) (c := cN) Try.underlying23 Try.underlying5 Try.underlying9 (Kd.C_below HN.out s0)
    refine (conv_run rfl hq_ (by rfl)).trans ?_
    with_reducible rfl
  rotate_left
  · simp only [Act.put, List.setIfInBounds_toArray, List.set_cons_zero, List.set_cons_succ, i64_w, i32_w]
    rfl
  refine readB_ (i := 14) (N := some 85) (v := ?_) (a' := ?_) #[true, true, true, true, true, true, true, true, true, true, true, true, true, true, true, false, false, false, false, false, false, false, false, false, false, false, false, false, false, false, false, false, false, false, false, false, false, false, false, false, false, false, false, false, false, false, false, false, false, false, false, false, false, false, false, false, false] rfl rfl (by kernel_rfl) (fun _ _ _ h => h) (Or.inl ⟨by rfl, ?_⟩) ?_ ?_
  rotate_left
  · intro w' s0
    have hq_ := Kd.C_string (P := Try.prog) (A := AO) (c := cO) Try.underlying23 Try.underlying5 Try.underlying9 (Kd.C_below HO.out s0)
    refine (conv_run rfl hq_ (by rfl)).trans ?_
    with_reducible rfl
  rotate_left
  · simp only [Act.put, List.setIfInBounds_toArray, List.set_cons_zero, List.set_cons_succ, i64_w, i32_w]
    rfl
  refine pure_ (i := 15) (N := some 86) (v := ?_) (a' := ?_) #[true, true, true, true, true, true, true, true, true, true, true, true, true, true, true, true, false, false, false, false, false, false, false, false, false, false, false, false, false, false, false, false, false, false, false, false, false, false, false, false, false, false, false, false, false, false, false, false, false, false, false, false, false, false, false, false, false] rfl rfl (by kernel_rfl) (fun _ _ _ h => h) (Or.inl ⟨by rfl, ?_⟩) ?_ ?_
  rotate_left
  · intro w' 
    go_simp
    with_reducible rfl
  rotate_left
  · simp only [Act.put, List.setIfInBounds_toArray, List.set_cons_zero, List.set_cons_succ, i64_w, i32_w]
    rfl
  refine pure_ (i := 16) (N := some 87) (v := ?_) (a' := ?_) #[true, true, true, true, true, true, true, true, true, true, true, true, true, true, true, true, true, false, false, false, false, false, false, false, false, false, false, false, false, false, false, false, false, false, false, false, false, false, false, false, false, false, false, false, false, false, false, false, false, false, false, false, false, false, false, false, false] rfl rfl (by kernel_rfl) (fun _ _ _ h => h) (Or.inl ⟨by rfl, ?_⟩) ?_ ?_
  rotate_left
  · intro w' 
    go_simp
    with_reducible rfl
  rotate_left
  · simp only [Act.put, List.setIfInBounds_toArray, List.set_cons_zero, List.set_cons_succ, i64_w, i32_w]
    rfl
  refine pure_ (i := 17) (N := some 88) (v := ?_) (a' := ?_) #[true, true, true, true, true, true, true, true, true, true, true, true, true, true, true, true, true, true, false, false, false, false, false, false, false, false, false, false, false, false, false, false, false, false, false, false, false, false, false, false, false, false, false, false, false, false, false, false, false, false, false, false, false, false, false, false, false] rfl rfl (by kernel_rfl) (fun _ _ _ h => h) (Or.inl ⟨by rfl, ?_⟩) ?_ ?_
  rotate_left
  · intro w' 
    go_simp
    with_reducible rfl
  rotate_left
  · simp only [Act.put, List.setIfInBounds_toArray, List.set_cons_zero, List.set_cons_succ, i64_w, i32_w]
    rfl
  refine pure_ (i := 18) (N := some 89) (v := ?_) (a' := ?_) #[true, true, true, true, true, true, true, true, true, true, true, true, true, true, true, true, true, true, true, false, false, false, false, false, false, false, false, false, false, false, false, false, false, false, false, false, false, false, false, false, false, false, false, false, false, false, false, false, false, false, false, false, false, false, false, false, false] rfl rfl (by kernel_rfl) (fun _ _ _ h => h) (Or.inl ⟨by rfl, ?_⟩) ?_ ?_
  rotate_left
  · intro w' 
    go_simp
    with_reducible rfl
  rotate_left
  · simp only [Act.put, List.setIfInBounds_toArray, List.set_cons_zero, List.set_cons_succ, i64_w, i32_w]
    rfl
  refine pure_ (i := 19) (N := some 90) (v := ?_) (a' := ?_) #[true, true, true, true, true, true, true, true, true, true, true, true, true, true, true, true, true, true, true, true, false, false, false, false, false, false, false, false, false, false, false, false, false, false, false, false, false, false, false, false, false, false, false, false, false, false, false, false, false, false, false, false, false, false, false, false, false] rfl rfl (by kernel_rfl) (fun _ _ _ h => h) (Or.inl ⟨by rfl, ?_⟩) ?_ ?_
  rotate_left
  · intro w' 
    go_simp
    with_reducible rfl
  rotate_left
  · simp only [Act.put, List.setIfInBounds_toArray, List.set_cons_zero, List.set_cons_succ, i64_w, i32_w]
    rfl
  refine pure_ (i := 20) (N := some 91) (v := ?_) (a' := ?_) #[true, true, true, true, true, true, true, true, true, true, true, true, true, true, true, true, true, true, true, true, true, false, false, false, false, false, false, false, false, false, false, false, false, false, false, false, false, false, false, false, false, false, false, false, false, false, false, false, false, false, false, false, false, false, false, false, false] rfl rfl (by kernel_rfl) (fun _ _ _ h => h) (Or.inl ⟨by rfl, ?_⟩) ?_ ?_
  rotate_left
  · intro w' 
    go_simp
    with_reducible rfl
  rotate_left
  · simp only [Act.put, List.setIfInBounds_toArray, List.set_cons_zero, List.set_cons_succ, i64_w, i32_w]
    rfl
  refine pure_ (i := 21) (N := some 92) (v := ?_) (a' := ?_) #[true, true, true, true, true, true, true, true, true, true, true, true, true, true, true, true, true, true, true, true, true, true, false, false, false, false, false, false, false, false, false, false, false, false, false, false, false, false, false, false, false, false, false, false, false, false, false, false, false, false, false, false, false, false, false, false, false] rfl rfl (by kernel_rfl) (fun _ _ _ h => h) (Or.inl ⟨by rfl, ?_⟩) ?_ ?_
  rotate_left
  · intro w' 
    go_simp
    with_reducible rfl
  rotate_left
  · simp only [Act.put, List.setIfInBounds_toArray, List.set_cons_zero, List.set_cons_succ, i64_w, i32_w]
    rfl
  refine pure_ (i := 22) (N := some 93) (v := ?_) (a' := ?_) #[true, true, true, true, true, true, true, true, true, true, true, true, true, true, true, true, true, true, true, true, true, true, true, false, false, false, false, false, false, false, false, false, false, false, false, false, false, false, false, false, false, false, false, false, false, false, false, false, false, false, false, false, false, false, false, false, false] rfl rfl (by kernel_rfl) (fun _ _ _ h => h) (Or.inl ⟨by rfl, ?_⟩) ?_ ?_
  rotate_left
  · intro w' 
    go_simp
    with_reducible rfl
  rotate_left
  · simp only [Act.put, List.setIfInBounds_toArray, List.set_cons_zero, List.set_cons_succ, i64_w, i32_w]
    rfl
  refine pure_ (i := 23) (N := some 94) (v := ?_) (a' := ?_) #[true, true, true, true, true, true, true, true, true, true, true, true, true, true, true, true, true, true, true, true, true, true, true, true, false, false, false, false, false, false, false, false, false, false, false, false, false, false, false, false, false, false, false, false, false, false, false, false, false, false, false, false, false, false, false, false, false] rfl rfl (by kernel_rfl) (fun _ _ _ h => h) (Or.inl ⟨by rfl, ?_⟩) ?_ ?_
  rotate_left
  · intro w' 
    go_simp
    with_reducible rfl
  rotate_left
  · simp only [Act.put, List.setIfInBounds_toArray, List.set_cons_zero, List.set_cons_succ, i64_w, i32_w]
    rfl
  refine pure_ (i := 24) (N := some 95) (v := ?_) (a' := ?_) #[true, true, true, true, true, true, true, true, true, true, true, true, true, true, true, true, true, true, true, true, true, true, true, true, true, false, false, false, false, false, false, false, false, false, false, false, false, false, false, false, false, false, false, false, false, false, false, false, false, false, false, false, false, false, false, false, false] rfl rfl (by kernel_rfl) (fun _ _ _ h => h) (Or.inl ⟨by rfl, ?_⟩) ?_ ?_
  rotate_left
  · intro w' 
    go_simp
    with_reducible rfl
  rotate_left
  · simp only [Act.put, List.setIfInBounds_toArray, List.set_cons_zero, List.set_cons_succ, i64_w, i32_w]
    rfl
  refine pure_ (i := 25) (N := some 96) (v := ?_) (a' := ?_) #[true, true, true, true, true, true, true, true, true, true, true, true, true, true, true, true, true, true, true, true, true, true, true, true, true, true, false, false, false, false, false, false, false, false, false, false, false, false, false, false, false, false, false, false, false, false, false, false, false, false, false, false, false, false, false, false, false] rfl rfl (by kernel_rfl) (fun _ _ _ h => h) (Or.inl ⟨by rfl, ?_⟩) ?_ ?_
  rotate_left
  · intro w' 
    go_simp
    with_reducible rfl
  rotate_left
  · simp only [Act.put, List.setIfInBounds_toArray, List.set_cons_zero, List.set_cons_succ, i64_w, i32_w]
    rfl
  refine pure_ (i := 26) (N := some 97) (v := ?_) (a' := ?_) #[true, true, true, true, true, true, true, true, true, true, true, true, true, true, true, true, true, true, true, true, true, true, true, true, true, true, true, false, false, false, false, false, false, false, false, false, false, false, false, false, false, false, false, false, false, false, false, false, false, false, false, false, false, false, false, false, false] rfl rfl (by kernel_rfl) (fun _ _ _ h => h) (Or.inl ⟨by rfl, ?_⟩) ?_ ?_
  rotate_left
  · intro w' 
    go_simp
    with_reducible rfl
  rotate_left
  · simp only [Act.put, List.setIfInBounds_toArray, List.set_cons_zero, List.set_cons_succ, i64_w, i32_w]
    rfl
  refine pure_ (i := 27) (N := some 98) (v := ?_) (a' := ?_) #[true, true, true, true, true, true, true, true, true, true, true, true, true, true, true, true, true, true, true, true, true, true, true, true, true, true, true, true, false, false, false, false, false, false, false, false, false, false, false, false, false, false, false, false, false, false, false, false, false, false, false, false, false, false, false, false, false] rfl rfl (by kernel_rfl) (fun _ _ _ h => h) (Or.inl ⟨by rfl, ?_⟩) ?_ ?_
  rotate_left
  · intro w' 
    go_simp
    with_reducible rfl
  rotate_left
  · simp only [Act.put, List.setIfInBounds_toArray, List.set_cons_zero, List.set_cons_succ, i64_w, i32_w]
    rfl
  refine pure_ (i := 28) (N := some 99) (v := ?_) (a' := ?_) #[true, true, true, true, true, true, true, true, true, true, true, true, true, true, true, true, true, true, true, true, true, true, true, true, true, true, true, true, true, false, false, false, false, false, false, false, false, false, false, false, false, false, false, false, false, false, false, false, false, false, false, false, false, false, false, false, false] rfl rfl (by kernel_rfl) (fun _ _ _ h => h) (Or.inl ⟨by rfl, ?_⟩) ?_ ?_
  rotate_left
  · intro w' 
    go_simp
    with_reducible rfl
  rotate_left
  · simp only [Act.put, List.setIfInBounds_toArray, List.set_cons_zero, List.set_cons_succ, i64_w, i32_w]
    rfl
  refine pure_ (i := 29) (N := some 100) (v := ?_) (a' := ?_) #[true, true, true, true, true, true, true, true, true, true, true, true, true, true, true, true, true, true, true, true, true, true, true, true, true, true, true, true, true, true, false, false, false, false, false, false, false, false, false, false, false, false, false, false, false, false, false, false, false, false, false, false, false, false, false, false, false] rfl rfl (by kernel_rfl) (fun _ _ _ h => h) (Or.inl ⟨by rfl, ?_⟩) ?_ ?_
  rotate_left
  · intro w' 
    go_simp
    with_reducible rfl
  rotate_left
  · simp only [Act.put, List.setIfInBounds_toArray, List.set_cons_zero, List.set_cons_succ, i64_w, i32_w]
    rfl
  refine pure_ (i := 30) (N := some 101) (v := ?_) (a' := ?_) #[true, true, true, true, true, true, true, true, true, true, true, true, true, true, true, true, true, true, true, true, true, true, true, true, true, true, true, true, true, true, true, false, false, false, false, false, false, false, false, false, false, false, false, false, false, false, false, false, false, false, false, false, false, false, false, false, false] rfl rfl (by kernel_rfl) (fun _ _ _ h => h) (Or.inl ⟨by rfl, ?_⟩) ?_ ?_
  rotate_left
  · intro w' 
    go_simp
    with_reducible rfl
  rotate_left
  · simp only [Act.put, List.setIfInBounds_toArray, List.set_cons_zero, List.set_cons_succ, i64_w, i32_w]
    rfl
  refine pure_ (i := 31) (N := some 102) (v := ?_) (a' := ?_) #[true, true, true, true, true, true, true, true, true, true, true, true, true, true, true, true, true, true, true, true, true, true, true, true, true, true, true, true, true, true, true, true, false, false, false, false, false, false, false, false, false, false, false, false, false, false, false, false, false, false, false, false, false, false, false, false, false] rfl rfl (by kernel_rfl) (fun _ _ _ h => h) (Or.inl ⟨by rfl, ?_⟩) ?_ ?_
  rotate_left
  · intro w' 
    go_simp
    with_reducible rfl
  rotate_left
  · simp only [Act.put, List.setIfInBounds_toArray, List.set_cons_zero, List.set_cons_succ, i64_w, i32_w]
    rfl
  refine pure_ (i := 32) (N := some 103) (v := ?_) (a' := ?_) #[true, true, true, true, true, true, true, true, true, true, true, true, true, true, true, true, true, true, true, true, true, true, true, true, true, true, true, true, true, true, true, true, true, false, false, false, false, false, false, false, false, false, false, false, false, false, false, false, false, false, false, false, false, false, false, false, false] rfl rfl (by kernel_rfl) (fun _ _ _ h => h) (Or.inl ⟨by rfl, ?_⟩) ?_ ?_
  rotate_left
  · intro w' 
    go_simp
    with_reducible rfl
  rotate_left
  · simp only [Act.put, List.setIfInBounds_toArray, List.set_cons_zero, List.set_cons_succ, i64_w, i32_w]
    rfl
  refine pure_ (i := 33) (N := some 104) (v := ?_) (a' := ?_) #[true, true, true, true, true, true, true, true, true, true, true, true, true, true, true, true, true, true, true, true, true, true, true, true, true, true, true, true, true, true, true, true, true, true, false, false, false, false, false, false, false, false, false, false, false, false, false, false, false, false, false, false, false, false, false, false, false] rfl rfl (by kernel_rfl) (fun _ _ _ h => h) (Or.inl ⟨by rfl, ?_⟩) ?_ ?_
  rotate_left
  · intro w' 
    go_simp
    with_reducible rfl
  rotate_left
  · simp only [Act.put, List.setIfInBounds_toArray, List.set_cons_zero, List.set_cons_succ, i64_w, i32_w]
    rfl
  refine pure_ (i := 35) (N := some 106) (v := ?_) (a' := ?_) #[true, true, true, true, true, true, true, true, true, true, true, true, true, true, true, true, true, true, true, true, true, true, true, true, true, true, true, true, true, true, true, true, true, true, false, true, false, false, false, false, false, false, false, false, false, false, false, false, false, false, false, false, false, false, false, false, false] rfl rfl (by kernel_rfl) (fun _ _ _ h => h) (Or.inl ⟨by rfl, ?_⟩) ?_ ?_
  rotate_left
  · intro w' 
    go_simp
    with_reducible rfl
  rotate_left
  · simp only [Act.put, List.setIfInBounds_toArray, List.set_cons_zero, List.set_cons_succ, i64_w, i32_w]
    rfl
  refine pure_ (i := 36) (N := some 107) (v := ?_) (a' := ?_) #[true, true, true, true, true, true, true, true, true, true, true, true, true, true, true, true, true, true, true, true, true, true, true, true, true, true, true, true, true, true, true, true, true, true, false, true, true, false, false, false, false, false, false, false, false, false, false, false, false, false, false, false, false, false, false, false, false] rfl rfl (by kernel_rfl) (fun _ _ _ h => h) (Or.inl ⟨by rfl, ?_⟩) ?_ ?_
  rotate_left
  · intro w' 
    go_simp
    with_reducible rfl
  rotate_left
  · simp only [Act.put, List.setIfInBounds_toArray, List.set_cons_zero, List.set_cons_succ, i64_w, i32_w]
    rfl
  refine readB_ (i := 34) (N := some 105) (v := ?_) (a' := ?_) #[true, true, true, true, true, true, true, true, true, true, true, true, true, true, true, true, true, true, true, true, true, true, true, true, true, true, true, true, true, true, true, true, true, true, true, true, true, false, false, false, false, false, false, false, false, false, false, false, false, false, false, false, false, false, false, false, false] rfl rfl (by kernel_rfl) (fun _ _ _ h => h) (Or.inl ⟨by rfl, ?_⟩) ?_ ?_
  rotate_left
  · intro w' s0
    have hq_ := Kd.C_string (P := Try.prog) (A := AS) (c := cS) Try.underlying23 Try.underlying5 Try.underlying9 (Kd.C_below HS.out s0)
    refine (conv_run rfl hq_ (by rfl)).trans ?_
    with_reducible rfl
  rotate_left
  · simp only [Act.put, List.setIfInBounds_toArray, List.set_cons_zero, List.set_cons_succ, i64_w, i32_w]
    rfl
  refine oneB_ (i := 37) (N := some 108) #[true, true, true, true, true, true, true, true, true, true, true, true, true, true, true, true, true, true, true, true, true, true, true, true, true, true, true, true, true, true, true, true, true, true, true, true, true, true, false, false, false, false, false, false, false, false, false, false, false, false, false, false, false, false, false, false, false] rfl rfl (by kernel_rfl) (fun K hK => ?_)
  rw [if_pos (by rfl)]
  go_simp
  go_at_call 20
  with_reducible refine (braidworkref02_Scale.calls k A0 c0 l0 a2 s _ Hl0.out Cl0.out F8.out).mono ?_
  rintro e w' ⟨v_, rfl, ho_, hb⟩
  obtain ⟨AV, cV, rfl⟩ := Kd.R_slice ho_
  have HV := Aside0.mk (Kd.R_reads' ho_).2.2
  clear ho_
  have hbK := Aside0.mk hb
  replace HB := Aside0.mk (HB.out.trans (hb.mono HB.out.size))
  replace HX := Aside0.mk (Kd.C_below HX.out hb)
  replace HY := Aside0.mk (Kd.C_below HY.out hb)
  replace Hl0 := Aside0.mk (Kd.C_below Hl0.out hb)
  replace Hl1 := Aside0.mk (Kd.C_below Hl1.out hb)
  replace HL := Aside0.mk (Kd.C_below HL.out hb)
  replace HM := Aside0.mk (Kd.C_below HM.out hb)
  replace HN := Aside0.mk (Kd.C_below HN.out hb)
  replace HO := Aside0.mk (Kd.C_below HO.out hb)
  replace HS := Aside0.mk (Kd.C_below HS.out hb)
  replace QL := Aside0.mk (QL.out.step hb)
  replace QN := Aside0.mk (QN.out.step hb)
  replace QS := Aside0.mk (QS.out.step hb)
  clear hb
  refine hK.out _ _ hbK.out ?_
  clear hK K hbK
  refine norm_ (a' := ?_) ?_ ?_
  rotate_left
  · (try simp only [Act.put, List.setIfInBounds_toArray, List.set_cons_zero, List.set_cons_succ, i64_w, i32_w])
    rfl
  refine readB_ (i := 38) (N := some 109) (v := ?_) (a' := ?_) #[true, true, true, true, true, true, true, true, true, true, true, true, true, true, true, true, true, true, true, true, true, true, true, true, true, true, true, true, true, true, true, true, true, true, true, true, true, true, true, false, false, false, false, false, false, false, false, false, false, false, false, false, false, false, false, false, false] rfl rfl (by kernel_rfl) (fun _ _ _ h => h) (Or.inl ⟨by rfl, ?_⟩) ?_ ?_
  rotate_left
  · intro w' s0
    have hq_ := Kd.C_string (P := Try.prog) (A := AV) (c := cV) Try.underlying23 Try.underlying5 Try.underlying9 (Kd.C_below HV.out s0)
    refine (conv_run rfl hq_ (by rfl)).trans ?_
    with_reducible rfl
  rotate_left
  · simp only [Act.put, List.setIfInBounds_toArray, List.set_cons_zero, List.set_cons_succ, i64_w, i32_w]
    rfl
  refine pure_ (i := 39) (N := some 110) (v := ?_) (a' := ?_) #[true, true, true, true, true, true, true, true, true, true, true, true, true, true, true, true, true, true, true, true, true, true, true, true, true, true, true, true, true, true, true, true, true, true, true, true, true, true, true, true, false, false, false, false, false, false, false, false, false, false, false, false, false, false, false, false, false] rfl rfl (by kernel_rfl) (fun _ _ _ h => h) (Or.inl ⟨by rfl, ?_⟩) ?_ ?_
  rotate_left
  · intro w' 
    go_simp
    with_reducible rfl
  rotate_left
  · simp only [Act.put, List.setIfInBounds_toArray, List.set_cons_zero, List.set_cons_succ, i64_w, i32_w]
    rfl
  refine pure_ (i := 40) (N := some 111) (v := ?_) (a' := ?_) #[true, true, true, true, true, true, true, true, true, true, true, true, true, true, true, true, true, true, true, true, true, true, true, true, true, true, true, true, true, true, true, true, true, true, true, true, true, true, true, true, true, false, false, false, false, false, false, false, false, false, false, false, false, false, false, false, false] rfl rfl (by kernel_rfl) (fun _ _ _ h => h) (Or.inl ⟨by rfl, ?_⟩) ?_ ?_
  rotate_left
  · intro w' 
    go_simp
    with_reducible rfl
  rotate_left
  · simp only [Act.put, List.setIfInBounds_toArray, List.set_cons_zero, List.set_cons_succ, i64_w, i32_w]
    rfl
  refine pure_ (i := 41) (N := some 112) (v := ?_) (a' := ?_) #[true, true, true, true, true, true, true, true, true, true, true, true, true, true, true, true, true, true, true, true, true, true, true, true, true, true, true, true, true, true, true, true, true, true, true, true, true, true, true, true, true, true, false, false, false, false, false, false, false, false, false, false, false, false, false, false, false] rfl rfl (by kernel_rfl) (fun _ _ _ h => h) (Or.inl ⟨by rfl, ?_⟩) ?_ ?_
  rotate_left
  · intro w' 
    go_simp
    with_reducible rfl
  rotate_left
  · simp only [Act.put, List.setIfInBounds_toArray, List.set_cons_zero, List.set_cons_succ, i64_w, i32_w]
    rfl
  refine pure_ (i := 42) (N := some 113) (v := ?_) (a' := ?_) #[true, true, true, true, true, true, true, true, true, true, true, true, true, true, true, true, true, true, true, true, true, true, true, true, true, true, true, true, true, true, true, true, true, true, true, true, true, true, true, true, true, true, true, false, false, false, false, false, false, false, false, false, false, false, false, false, false] rfl rfl (by kernel_rfl) (fun _ _ _ h => h) (Or.inl ⟨by rfl, ?_⟩) ?_ ?_
  rotate_left
  · intro w' 
    go_simp
    with_reducible rfl
  rotate_left
  · simp only [Act.put, List.setIfInBounds_toArray, List.set_cons_zero, List.set_cons_succ, i64_w, i32_w]
    rfl
  refine pure_ (i := 44) (N := some 115) (v := ?_) (a' := ?_) #[true, true, true, true, true, true, true, true, true, true, true, true, true, true, true, true, true, true, true, true, true, true, true, true, true, true, true, true, true, true, true, true, true, true, true, true, true, true, true, true, true, true, true, false, true, false, false, false, false, false, false, false, false, false, false, false, false] rfl rfl (by kernel_rfl) (fun _ _ _ h => h) (Or.inl ⟨by rfl, ?_⟩) ?_ ?_
  rotate_left
  · intro w' 
    go_simp
    with_reducible rfl
  rotate_left
  · simp only [Act.put, List.setIfInBounds_toArray, List.set_cons_zero, List.set_cons_succ, i64_w, i32_w]
    rfl
  refine oneB_ (i := 43) (N := some 114) #[true, true, true, true, true, true, true, true, true, true, true, true, true, true, true, true, true, true, true, true, true, true, true, true, true, true, true, true, true, true, true, true, true, true, true, true, true, true, true, true, true, true, true, true, true, false, false, false, false, false, false, false, false, false, false, false, false] rfl rfl (by kernel_rfl) (fun K hK => ?_)
  rw [if_pos (by rfl)]
  go_simp
  go_at_call 21
  with_reducible refine (vector_Lead.calls AX cX l0 d _ HX.out CX.out F9.out).mono ?_
  rintro e w' ⟨rfl, hd⟩
  have hb := drawn_below hd
  clear hd
  have hbK := Aside0.mk hb
  replace HB := Aside0.mk (HB.out.trans (hb.mono HB.out.size))
  replace HX := Aside0.mk (Kd.C_below HX.out hb)
  replace HY := Aside0.mk (Kd.C_below HY.out hb)
  replace Hl0 := Aside0.mk (Kd.C_below Hl0.out hb)
  replace Hl1 := Aside0.mk (Kd.C_below Hl1.out hb)
  replace HL := Aside0.mk (Kd.C_below HL.out hb)
  replace HM := Aside0.mk (Kd.C_below HM.out hb)
  replace HN := Aside0.mk (Kd.C_below HN.out hb)
  replace HO := Aside0.mk (Kd.C_below HO.out hb)
  replace HS := Aside0.mk (Kd.C_below HS.out hb)
  replace QL := Aside0.mk (QL.out.step hb)
  replace QN := Aside0.mk (QN.out.step hb)
  replace QS := Aside0.mk (QS.out.step hb)
  clear hb
  refine hK.out _ _ hbK.out ?_
  clear hK K hbK
  refine norm_ (a' := ?_) ?_ ?_
  rotate_left
  · (try simp only [Act.put, List.setIfInBounds_toArray, List.set_cons_zero, List.set_cons_succ, i64_w, i32_w])
    rfl
  refine oneB_ (i := 45) (N := some 116) #[true, true, true, true, true, true, true, true, true, true, true, true, true, true, true, true, true, true, true, true, true, true, true, true, true, true, true, true, true, true, true, true, true, true, true, true, true, true, true, true, true, true, true, true, true, true, false, false, false, false, false, false, false, false, false, false, false] rfl rfl (by kernel_rfl) (fun K hK => ?_)
  rw [if_pos (by rfl)]
  go_simp
  go_at_call 22
  with_reducible refine (braidworkref02_Lead.calls k A0 c0 l0 d _ Hl0.out Cl0.out F10.out).mono ?_
  rintro e w' ⟨rfl, hd⟩
  have hb := drawn_below hd
  clear hd
  have hbK := Aside0.mk hb
  replace HB := Aside0.mk (HB.out.trans (hb.mono HB.out.size))
  replace HX := Aside0.mk (Kd.C_below HX.out hb)
  replace HY := Aside0.mk (Kd.C_below HY.out hb)
  replace Hl0 := Aside0.mk (Kd.C_below Hl0.out hb)
  replace Hl1 := Aside0.mk (Kd.C_below Hl1.out hb)
  replace HL := Aside0.mk (Kd.C_below HL.out hb)
  replace HM := Aside0.mk (Kd.C_below HM.out hb)
  replace HN := Aside0.mk (Kd.C_below HN.out hb)
  replace HO := Aside0.mk (Kd.C_below HO.out hb)
  replace HS := Aside0.mk (Kd.C_below HS.out hb)
  replace QL := Aside0.mk (QL.out.step hb)
  replace QN := Aside0.mk (QN.out.step hb)
  replace QS := Aside0.mk (QS.out.step hb)
  clear hb
  refine hK.out _ _ hbK.out ?_
  clear hK K hbK
  refine norm_ (a' := ?_) ?_ ?_
  rotate_left
  · (try simp only [Act.put, List.setIfInBounds_toArray, List.set_cons_zero, List.set_cons_succ, i64_w, i32_w])
    rfl
  refine pure_ (i := 46) (N := some 117) (v := ?_) (a' := ?_) #[true, true, true, true, true, true, true, true, true, true, true, true, true, true, true, true, true, true, true, true, true, true, true, true, true, true, true, true, true, true, true, true, true, true, true, true, true, true, true, true, true, true, true, true, true, true, true, false, false, false, false, false, false, false, false, false, false] rfl rfl (by kernel_rfl) (fun _ _ _ h => h) (Or.inl ⟨by rfl, ?_⟩) ?_ ?_
  rotate_left
  · intro w' 
    go_simp
    with_reducible rfl
  rotate_left
  · simp only [Act.put, List.setIfInBounds_toArray, List.set_cons_zero, List.set_cons_succ, i64_w, i32_w]
    rfl
  refine pure_ (i := 47) (N := some 118) (v := ?_) (a' := ?_) #[true, true, true, true, true, true, true, true, true, true, true, true, true, true, true, true, true, true, true, true, true, true, true, true, true, true, true, true, true, true, true, true, true, true, true, true, true, true, true, true, true, true, true, true, true, true, true, true, false, false, false, false, false, false, false, false, false] rfl rfl (by kernel_rfl) (fun _ _ _ h => h) (Or.inl ⟨by rfl, ?_⟩) ?_ ?_
  rotate_left
  · intro w' 
    go_simp
    with_reducible rfl
  rotate_left
  · simp only [Act.put, List.setIfInBounds_toArray, List.set_cons_zero, List.set_cons_succ, i64_w, i32_w]
    rfl
  refine pure_ (i := 48) (N := some 119) (v := ?_) (a' := ?_) #[true, true, true, true, true, true, true, true, true, true, true, true, true, true, true, true, true, true, true, true, true, true, true, true, true, true, true, true, true, true, true, true, true, true, true, true, true, true, true, true, true, true, true, true, true, true, true, true, true, false, false, false, false, false, false, false, false] rfl rfl (by kernel_rfl) (fun _ _ _ h => h) (Or.inl ⟨by rfl, ?_⟩) ?_ ?_
  rotate_left
  · intro w' 
    go_simp
    with_reducible rfl
  rotate_left
  · simp only [Act.put, List.setIfInBounds_toArray, List.set_cons_zero, List.set_cons_succ, i64_w, i32_w]
    rfl
  refine pure_ (i := 49) (N := some 120) (v := ?_) (a' := ?_) #[true, true, true, true, true, true, true, true, true, true, true, true, true, true, true, true, true, true, true, true, true, true, true, true, true, true, true, true, true, true, true, true, true, true, true, true, true, true, true, true, true, true, true, true, true, true, true, true, true, true, false, false, false, false, false, false, false] rfl rfl (by kernel_rfl) (fun _ _ _ h => h) (Or.inl ⟨by rfl, ?_⟩) ?_ ?_
  rotate_left
  · intro w' 
    go_simp
    with_reducible rfl
  rotate_left
  · simp only [Act.put, List.setIfInBounds_toArray, List.set_cons_zero, List.set_cons_succ, i64_w, i32_w]
    rfl
  refine pure_ (i := 51) (N := some 122) (v := ?_) (a' := ?_) #[true, true, true, true, true, true, true, true, true, true, true, true, true, true, true, true, true, true, true, true, true, true, true, true, true, true, true, true, true, true, true, true, true, true, true, true, true, true, true, true, true, true, true, true, true, true, true, true, true, true, false, true, false, false, false, false, false] rfl rfl (by kernel_rfl) (fun _ _ _ h => h) (Or.inl ⟨by rfl, ?_⟩) ?_ ?_
  rotate_left
  · intro w' 
    go_simp
    with_reducible rfl
  rotate_left
  · simp only [Act.put, List.setIfInBounds_toArray, List.set_cons_zero, List.set_cons_succ, i64_w, i32_w]
    rfl
  refine oneB_ (i := 50) (N := some 121) #[true, true, true, true, true, true, true, true, true, true, true, true, true, true, true, true, true, true, true, true, true, true, true, true, true, true, true, true, true, true, true, true, true, true, true, true, true, true, true, true, true, true, true, true, true, true, true, true, true, true, true, true, false, false, false, false, false] rfl rfl (by kernel_rfl) (fun K hK => ?_)
  rw [if_pos (by rfl)]
  go_simp
  go_at_call 23
  with_reducible refine (vector_IsZero.calls AX cX l0 (decide (d < 0)) _ HX.out CX.out F11.out).mono ?_
  rintro e w' ⟨rfl, hd⟩
  have hb := drawn_below hd
  clear hd
  have hbK := Aside0.mk hb
  replace HB := Aside0.mk (HB.out.trans (hb.mono HB.out.size))
  replace HX := Aside0.mk (Kd.C_below HX.out hb)
  replace HY := Aside0.mk (Kd.C_below HY.out hb)
  replace Hl0 := Aside0.mk (Kd.C_below Hl0.out hb)
  replace Hl1 := Aside0.mk (Kd.C_below Hl1.out hb)
  replace HL := Aside0.mk (Kd.C_below HL.out hb)
  replace HM := Aside0.mk (Kd.C_below HM.out hb)
  replace HN := Aside0.mk (Kd.C_below HN.out hb)
  replace HO := Aside0.mk (Kd.C_below HO.out hb)
  replace HS := Aside0.mk (Kd.C_below HS.out hb)
  replace QL := Aside0.mk (QL.out.step hb)
  replace QN := Aside0.mk (QN.out.step hb)
  replace QS := Aside0.mk (QS.out.step hb)
  clear hb
  refine hK.out _ _ hbK.out ?_
  clear hK K hbK
  refine norm_ (a' := ?_) ?_ ?_
  rotate_left
  · (try simp only [Act.put, List.setIfInBounds_toArray, List.set_cons_zero, List.set_cons_succ, i64_w, i32_w])
    rfl
  refine oneB_ (i := 52) (N := some 123) #[true, true, true, true, true, true, true, true, true, true, true, true, true, true, true, true, true, true, true, true, true, true, true, true, true, true, true, true, true, true, true, true, true, true, true, true, true, true, true, true, true, true, true, true, true, true, true, true, true, true, true, true, true, false, false, false, false] rfl rfl (by kernel_rfl) (fun K hK => ?_)
  rw [if_pos (by rfl)]
  go_simp
  go_at_call 22
  with_reducible refine (braidworkref02_Lead.calls k A0 c0 l0 d _ Hl0.out Cl0.out F10.out).mono ?_
  rintro e w' ⟨rfl, hd⟩
  have hb := drawn_below hd
  clear hd
  have hbK := Aside0.mk hb
  replace HB := Aside0.mk (HB.out.trans (hb.mono HB.out.size))
  replace HX := Aside0.mk (Kd.C_below HX.out hb)
  replace HY := Aside0.mk (Kd.C_below HY.out hb)
  replace Hl0 := Aside0.mk (Kd.C_below Hl0.out hb)
  replace Hl1 := Aside0.mk (Kd.C_below Hl1.out hb)
  replace HL := Aside0.mk (Kd.C_below HL.out hb)
  replace HM := Aside0.mk (Kd.C_below HM.out hb)
  replace HN := Aside0.mk (Kd.C_below HN.out hb)
  replace HO := Aside0.mk (Kd.C_below HO.out hb)
  replace HS := Aside0.mk (Kd.C_below HS.out hb)
  replace QL := Aside0.mk (QL.out.step hb)
  replace QN := Aside0.mk (QN.out.step hb)
  replace QS := Aside0.mk (QS.out.step hb)
  clear hb
  refine hK.out _ _ hbK.out ?_
  clear hK K hbK
  refine norm_ (a' := ?_) ?_ ?_
  rotate_left
  · (try simp only [Act.put, List.setIfInBounds_toArray, List.set_cons_zero, List.set_cons_succ, i64_w, i32_w])
    rfl
  refine pure_ (i := 53) (N := some 124) (v := ?_) (a' := ?_) #[true, true, true, true, true, true, true, true, true, true, true, true, true, true, true, true, true, true, true, true, true, true, true, true, true, true, true, true, true, true, true, true, true, true, true, true, true, true, true, true, true, true, true, true, true, true, true, true, true, true, true, true, true, true, false, false, false] rfl rfl (by kernel_rfl) (fun _ _ _ h => h) (Or.inl ⟨by rfl, ?_⟩) ?_ ?_
  rotate_left
  · intro w' 
    go_simp
    with_reducible rfl
  rotate_left
  · simp only [Act.put, List.setIfInBounds_toArray, List.set_cons_zero, List.set_cons_succ, i64_w, i32_w]
    rfl
  refine pure_ (i := 54) (N := some 125) (v := ?_) (a' := ?_) #[true, true, true, true, true, true, true, true, true, true, true, true, true, true, true, true, true, true, true, true, true, true, true, true, true, true, true, true, true, true, true, true, true, true, true, true, true, true, true, true, true, true, true, true, true, true, true, true, true, true, true, true, true, true, true, false, false] rfl rfl (by kernel_rfl) (fun _ _ _ h => h) (Or.inl ⟨by rfl, ?_⟩) ?_ ?_
  rotate_left
  · intro w' 
    go_simp
    with_reducible rfl
  rotate_left
  · simp only [Act.put, List.setIfInBounds_toArray, List.set_cons_zero, List.set_cons_succ, i64_w, i32_w]
    rfl
  refine pure_ (i := 55) (N := some 126) (v := ?_) (a' := ?_) #[true, true, true, true, true, true, true, true, true, true, true, true, true, true, true, true, true, true, true, true, true, true, true, true, true, true, true, true, true, true, true, true, true, true, true, true, true, true, true, true, true, true, true, true, true, true, true, true, true, true, true, true, true, true, true, true, false] rfl rfl (by kernel_rfl) (fun _ _ _ h => h) (Or.inl ⟨by rfl, ?_⟩) ?_ ?_
  rotate_left
  · intro w' 
    go_simp
    with_reducible rfl
  rotate_left
  · simp only [Act.put, List.setIfInBounds_toArray, List.set_cons_zero, List.set_cons_succ, i64_w, i32_w]
    rfl
  refine pure_ (i := 56) (N := some 22) (v := ?_) (a' := ?_) #[true, true, true, true, true, true, true, true, true, true, true, true, true, true, true, true, true, true, true, true, true, true, true, true, true, true, true, true, true, true, true, true, true, true, true, true, true, true, true, true, true, true, true, true, true, true, true, true, true, true, true, true, true, true, true, true, true] rfl rfl (by kernel_rfl) (fun _ _ _ h => h) (Or.inl ⟨by rfl, ?_⟩) ?_ ?_
  rotate_left
  · intro w' 
    go_simp
    with_reducible rfl
  rotate_left
  · simp only [Act.put, List.setIfInBounds_toArray, List.set_cons_zero, List.set_cons_succ, i64_w, i32_w]
    rfl
  refine done_ (by kernel_rfl) ?_
  clear HM HO HV HX HY Hl0 Hl1 HL HN HS
  go_wp2
  go_loopg [131] 3 (fun kq v131 w' => ∃ j : Nat, v131 = .int .i64 (j : Int) ∧ Aside0 (kq + j = 3) ∧ Aside0 (Row8 w' w2.heap.size (.slice AL l.length cL) l.length) ∧ Aside0 (Row8 w' w2.heap.size (.slice AN n.length cN) n.length) ∧ Aside0 (Row8 w' w2.heap.size (.slice AS s.length cS) s.length) ∧ Aside0 (Below w2.heap.size w2 w'))
  case atStart => exact ⟨0, rfl, ⟨rfl⟩, QL, QN, QS, HB⟩
  case round =>
    clear QL QN QS HB
    obtain ⟨j, rfl, HJ, QL, QN, QS, HB⟩ := hrel
    by_cases hj : j < 3
    · have : j = 0 ∨ j = 1 ∨ j = 2 := by omega
      clear hj
      rcases this with rfl | rfl | rfl
      · have hix := idx0 AL AN AS l.length cL n.length cN s.length cS wr
        cases gk with
        | zero => exact absurd HJ.out (by decide)
        | succ k2 =>
          go_wp2
          go_loopg [25] l.length (fun kq v25 w' => ∃ k_ : Nat, v25 = .int .i64 (k_ : Int) ∧ Aside0 (kq + k_ = l.length) ∧ Aside0 (Row8 w' w2.heap.size (.slice AL l.length cL) l.length) ∧ Aside0 (Row8 w' w2.heap.size (.slice AN n.length cN) n.length) ∧ Aside0 (Row8 w' w2.heap.size (.slice AS s.length cS) s.length) ∧ Aside0 (Below w2.heap.size w2 w'))
          case atStart => exact ⟨0, rfl, ⟨by omega⟩, QL, QN, QS, HB⟩
          case round =>
            clear QL QN QS HB
            obtain ⟨k_, rfl, HK, QL, QN, QS, HB⟩ := hrel
            by_cases hk : k_ < l.length
            · obtain ⟨g_, cc, x_, e_, hg, hc, hf⟩ := QL.out.get hk
              injection e_ with e1 e2 e3
              subst e1 e3
              have hs := HLEN.out
              have p0 : (0 : Int) ≤ (k_ : Int) := Int.natCast_nonneg _
              have p1 : (k_ : Int) < (l.length : Int) := Int.ofNat_lt.2 hk
              have q1 : decide ((k_ : Int) < (l.length : Int)) = true := decide_eq_true p1
              have q4 := eq_true p0
              have q5 := eq_true p1
              have q6 := eq_true hk
              have hnx : wrap64 ((k_ : Int) + 1) = ((k_ + 1 : Nat) : Int) := one_step k_ (by omega)
              have Hg := Aside0.mk hg
              have Hk := Aside0.mk hk
              clear hs p0 p1 hk hg
              cases gk with
              | zero => exact absurd HK.out (by have := Hk.out; omega)
              | succ k1 =>
                go_wp2
                go_roundg k1
                case measure => omega
                case rel => exact ⟨k_ + 1, by first | rfl | (rw [hnx]), ⟨by have := HK.out; omega⟩, ⟨QL.out.set _ _ _⟩, ⟨QN.out.set _ _ _⟩, ⟨QS.out.set _ _ _⟩, ⟨HB.out.setCell Hg.out _⟩⟩
            · have q1 : decide ((k_ : Int) < (l.length : Int)) = false := decide_eq_false (by omega)
              have q2 : decide (k_ < l.length) = false := decide_eq_false hk
              have q3 := eq_false hk
              have q4 : ((k_ : Int) < (l.length : Int)) = False := eq_false (by omega)
              clear hk HK
              go_wp2
              go_roundg k2
              case measure => omega
              case rel => exact ⟨0 + 1, rfl, ⟨by have := HJ.out; omega⟩, QL, QN, QS, HB⟩
      · have hix := idx1 AL AN AS l.length cL n.length cN s.length cS wr
        cases gk with
        | zero => exact absurd HJ.out (by decide)
        | succ k2 =>
          go_wp2
          go_loopg [25] n.length (fun kq v25 w' => ∃ k_ : Nat, v25 = .int .i64 (k_ : Int) ∧ Aside0 (kq + k_ = n.length) ∧ Aside0 (Row8 w' w2.heap.size (.slice AL l.length cL) l.length) ∧ Aside0 (Row8 w' w2.heap.size (.slice AN n.length cN) n.length) ∧ Aside0 (Row8 w' w2.heap.size (.slice AS s.length cS) s.length) ∧ Aside0 (Below w2.heap.size w2 w'))
          case atStart => exact ⟨0, rfl, ⟨by omega⟩, QL, QN, QS, HB⟩
          case round =>
            clear QL QN QS HB
            obtain ⟨k_, rfl, HK, QL, QN, QS, HB⟩ := hrel
            by_cases hk : k_ < n.length
            · obtain ⟨g_, cc, x_, e_, hg, hc, hf⟩ := QN.out.get hk
              injection e_ with e1 e2 e3
              subst e1 e3
              have hs := HLEN.out
              have p0 : (0 : Int) ≤ (k_ : Int) := Int.natCast_nonneg _
              have p1 : (k_ : Int) < (n.length : Int) := Int.ofNat_lt.2 hk
              have q1 : decide ((k_ : Int) < (n.length : Int)) = true := decide_eq_true p1
              have q4 := eq_true p0
              have q5 := eq_true p1
              have q6 := eq_true hk
              have hnx : wrap64 ((k_ : Int) + 1) = ((k_ + 1 : Nat) : Int) := one_step k_ (by omega)
              have Hg := Aside0.mk hg
              have Hk := Aside0.mk hk
              clear hs p0 p1 hk hg
              cases gk with
              | zero => exact absurd HK.out (by have := Hk.out; omega)
              | succ k1 =>
                go_wp2
                go_roundg k1
                case measure => omega
                case rel => exact ⟨k_ + 1, by first | rfl | (rw [hnx]), ⟨by have := HK.out; omega⟩, ⟨QL.out.set _ _ _⟩, ⟨QN.out.set _ _ _⟩, ⟨QS.out.set _ _ _⟩, ⟨HB.out.setCell Hg.out _⟩⟩
            · have q1 : decide ((k_ : Int) < (n.length : Int)) = false := decide_eq_false (by omega)
              have q2 : decide (k_ < n.length) = false := decide_eq_false hk
              have q3 := eq_false hk
              have q4 : ((k_ : Int) < (n.length : Int)) = False := eq_false (by omega)
              clear hk HK
              go_wp2
              go_roundg k2
              case measure => omega
              case rel => exact ⟨1 + 1, rfl, ⟨by have := HJ.out; omega⟩, QL, QN, QS, HB⟩
      · have hix := idx2 AL AN AS l.length cL n.length cN s.length cS wr
        cases gk with
        | zero => exact absurd HJ.out (by decide)
        | succ k2 =>
          go_wp2
          go_loopg [25] s.length (fun kq v25 w' => ∃ k_ : Nat, v25 = .int .i64 (k_ : Int) ∧ Aside0 (kq + k_ = s.length) ∧ Aside0 (Row8 w' w2.heap.size (.slice AL l.length cL) l.length) ∧ Aside0 (Row8 w' w2.heap.size (.slice AN n.length cN) n.length) ∧ Aside0 (Row8 w' w2.heap.size (.slice AS s.length cS) s.length) ∧ Aside0 (Below w2.heap.size w2 w'))
          case atStart => exact ⟨0, rfl, ⟨by omega⟩, QL, QN, QS, HB⟩
          case round =>
            clear QL QN QS HB
            obtain ⟨k_, rfl, HK, QL, QN, QS, HB⟩ := hrel
            by_cases hk : k_ < s.length
            · obtain ⟨g_, cc, x_, e_, hg, hc, hf⟩ := QS.out.get hk
              injection e_ with e1 e2 e3
              subst e1 e3
              have hs := HLEN.out
              have p0 : (0 : Int) ≤ (k_ : Int) := Int.natCast_nonneg _
              have p1 : (k_ : Int) < (s.length : Int) := Int.ofNat_lt.2 hk
              have q1 : decide ((k_ : Int) < (s.length : Int)) = true := decide_eq_true p1
              have q4 := eq_true p0
              have q5 := eq_true p1
              have q6 := eq_true hk
              have hnx : wrap64 ((k_ : Int) + 1) = ((k_ + 1 : Nat) : Int) := one_step k_ (by omega)
              have Hg := Aside0.mk hg
              have Hk := Aside0.mk hk
              clear hs p0 p1 hk hg
              cases gk with
              | zero => exact absurd HK.out (by have := Hk.out; omega)
              | succ k1 =>
                go_wp2
                go_roundg k1
                case measure => omega
                case rel => exact ⟨k_ + 1, by first | rfl | (rw [hnx]), ⟨by have := HK.out; omega⟩, ⟨QL.out.set _ _ _⟩, ⟨QN.out.set _ _ _⟩, ⟨QS.out.set _ _ _⟩, ⟨HB.out.setCell Hg.out _⟩⟩
            · have q1 : decide ((k_ : Int) < (s.length : Int)) = false := decide_eq_false (by omega)
              have q2 : decide (k_ < s.length) = false := decide_eq_false hk
              have q3 := eq_false hk
              have q4 : ((k_ : Int) < (s.length : Int)) = False := eq_false (by omega)
              clear hk HK
              go_wp2
              go_roundg k2
              case measure => omega
              case rel => exact ⟨2 + 1, rfl, ⟨by have := HJ.out; omega⟩, QL, QN, QS, HB⟩
    · have ej : j = 3 := by have := HJ.out; omega
      subst ej
      clear hj HJ
      have hcv1 := Kd.C_string (P := Try.prog) (A := AX) (c := cX) Try.underlying23 Try.underlying5 Try.underlying9 (Kd.C_below HX2.out HB.out)
      have hcv2 := Kd.C_string (P := Try.prog) (A := A0) (c := c0) Try.underlying23 Try.underlying5 Try.underlying9 (Kd.C_below HA2.out HB.out)
      have hcv3 := Kd.C_string (P := Try.prog) (A := AY) (c := cY) Try.underlying23 Try.underlying5 Try.underlying9 (Kd.C_below HY2.out HB.out)
      have hcv4 := Kd.C_string (P := Try.prog) (A := A1) (c := c1) Try.underlying23 Try.underlying5 Try.underlying9 (Kd.C_below HC2.out HB.out)
      go_wp2_with (first
    | (go_at_call 10; with_reducible refine (braidworklaw02_wakes.calls 200 true _ (sums_wakes 197)).mono ?_; rintro e w' ⟨rfl, hb⟩; replace HB := Aside0.mk (HB.out.trans (hb.mono HB.out.size)); clear hb))
      go_ret
      exact ⟨rfl, HB0.out.trans (HB.out.mono HB0.out.size)⟩
theorem sums_calls (A0 : Option Addr) (c0 : Nat) (l0 : List Int) (A1 : Option Addr) (c1 : Nat) (l1 : List Int) (a2 : Int) (w : World) (hr0 : Kd.C (Kd.int .u8) w A0 l0.length l0) (hc0 : l0.length ≤ c0) (hr1 : Kd.C (Kd.int .u8) w A1 l1.length l1) (hc1 : l1.length ≤ c1) (h0 : l0.length ≤ 140737488351232) (w0 : ∀ y ∈ l0, (Lit.int .u8 y).wf = true) (h1 : l1.length ≤ 140737488351232) (w1 : ∀ y ∈ l1, (Lit.int .u8 y).wf = true) (w2 : (Lit.int .u8 a2).wf = true) :
    Calls Try.prog 4 #[.slice A0 l0.length c0, .slice A1 l1.length c1, .int .u8 a2] w fun e w' => e = .returned (.bool true) ∧ Below w.heap.size w w' := by
  have hc : isB a2 := by
    have := areB_of_wf (l := [a2]) (fun x hx => by rw [List.mem_singleton.1 hx]; exact w2)
    exact this a2 (List.mem_singleton.2 rfl)
  obtain ⟨l, e, n, g, p, i, s, d, k, f1, f2, f3, f4, f5, f6, f7, f8, f9, f10, f11, o1, o2⟩ := sums_plain l0 l1 a2 (areB_of_wf w0) (areB_of_wf w1) hc h0 h1
  have ll : l.length ≤ 140737488351232 := by
    unfold vector_Add.f at f1
    split at f1
    · split at f1
      · simp only [Option.some.injEq, Prod.mk.injEq] at f1
        rw [← f1.1, List.length_zipWith]; omega
      · cases f1
    · simp only [Option.some.injEq, Prod.mk.injEq] at f1
      rw [← f1.1]; simp
  have ln : n.length ≤ 140737488351232 := by
    unfold vector_AddScaled.f at f3
    split at f3
    · split at f3
      · simp only [Option.some.injEq, Prod.mk.injEq] at f3
        rw [← f3.1, List.length_zipWith]; omega
      · cases f3
    · simp only [Option.some.injEq, Prod.mk.injEq] at f3
      rw [← f3.1]; simp
  have ls : s.length ≤ 140737488351232 := by
    unfold vector_Scale.f at f7
    split at f7
    · simp only [Option.some.injEq] at f7
      rw [← f7, List.length_map]; exact h0
    · cases f7
  exact sums_walk A0 c0 l0 A1 c1 l1 a2 w ⟨hr0⟩ ⟨hc0⟩ ⟨hr1⟩ ⟨hc1⟩ l e n g p i s d k ⟨f1⟩ ⟨f2⟩ ⟨f3⟩ ⟨f4⟩ ⟨f5⟩ ⟨f6⟩ ⟨f7⟩ ⟨f8⟩ ⟨f9⟩ ⟨f10⟩ ⟨f11⟩ ⟨o1⟩ ⟨o2⟩ ⟨ll, ln, ls⟩
end Go.Proofs.Ytpipmhofekfkgaa.Plain
