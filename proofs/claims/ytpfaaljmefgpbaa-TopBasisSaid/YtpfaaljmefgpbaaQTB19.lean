/- QTB, part 19: HBasG. -/
import Derived.Test.YtpfaaljmefgpbaaQTB18
import Derived.BigQuiet

section
set_option linter.unusedVariables false
set_option linter.unusedSimpArgs false
namespace Go.Proofs.Ytpfaaljmefgpbaa.Hand
open Go.RowKit Go.Proofs.YtpfaaljmefgpbaaW.PrintWords Go.Proofs.YtpfaaljmefgpbaaW.PrintLast Go.Proofs.YtpfaaljmefgpbaaW.PrintMore
theorem reps_br {Rr : List Int × List Int → List Value → Prop} {x : List Int × List Int} {u v : Value} (h : Rr x [u, v]) : Reps Rr 2 [x] [u, v] := ⟨rfl, fun j p hj => by
  match j, hj with
  | 0, hj => injection hj with hj; subst hj; exact h
  | j + 1, hj => simp at hj⟩
def okR (P : Nat → Prop) (N : Nat) (j : Nat) : Prop := (P j ∧ j < N) ∨ N < j
theorem okR_l {P : Nat → Prop} {N j : Nat} (h : P j ∧ j < N) : okR P N j := Or.inl h
theorem okR_r {P : Nat → Prop} {N j : Nat} (h : N < j) : okR P N j := Or.inr h
def cl2 (s1 s2 : List Int) (k : Nat) (x : List Int × List Int) : List Int × List Int := (addS x.1 s1 (x.1.getD k 0), addS x.2 s2 (x.1.getD k 0))
def mixR (R : List (List Int × List Int)) (f : List Int × List Int → List Int × List Int) (i : Nat) : List (List Int × List Int) := (R.take i).map f ++ R.drop i
theorem mixR_length (R : List (List Int × List Int)) (f : List Int × List Int → List Int × List Int) {i : Nat} (hi : i ≤ R.length) : (mixR R f i).length = R.length := by simp [mixR]; omega
theorem mixR_at (R : List (List Int × List Int)) (f : List Int × List Int → List Int × List Int) {i : Nat} (hi : i < R.length) (h : i < (mixR R f i).length) : (mixR R f i)[i] = R[i] := by
  have hl : ((R.take i).map f).length = i := by simp; omega
  have e : (mixR R f i)[i]? = some R[i] := by
    unfold mixR
    rw [List.getElem?_append_right (by omega), hl, Nat.sub_self, List.getElem?_drop, Nat.add_zero, List.getElem?_eq_getElem hi]
  rw [List.getElem?_eq_getElem h] at e
  exact Option.some.inj e
theorem mixR_set (R : List (List Int × List Int)) (f : List Int × List Int → List Int × List Int) {i : Nat} (hi : i < R.length) : (mixR R f i).set i (f R[i]) = mixR R f (i + 1) := by
  unfold mixR
  have hl : ((R.take i).map f).length = i := by simp; omega
  rw [List.set_append_right _ _ (by omega), hl, Nat.sub_self, List.drop_eq_getElem_cons hi, List.set_cons_zero, List.take_add_one, List.getElem?_eq_getElem hi, Option.toList_some, List.map_append, List.append_assoc]
  rfl
theorem okv_ok {W : World} {P : Nat → Prop} {B N M0 D : Nat} {A : Option Addr} {n c : Nat} {L : List (List Int × List Int)} (hN : Kd.N brK 35 W M0 (okR P N) (.slice A n c) L) (hB : B < N) (hM : N < M0) (hMD : M0 ≤ D) (hD : ∀ k, (Value.slice A n c).ownBlock = some k → k < D) (k : Nat) (h : (N < k ∧ k < M0) ∨ D ≤ k) : okR P N k ∧ some k ≠ (Value.slice A n c).ownBlock := by
  refine ⟨okR_r ?_, fun e => ?_⟩
  · rcases h with h | h
    · exact h.1
    · omega
  · have h1 := Kd.N_base hN k e.symm
    have h2 := hD k e.symm
    omega
theorem slIns_at {w : World} {base baseV : Nat} {ok okv : Nat → Prop} {A : Option Addr} {c n : Nat} {L : List (List Int × List Int)} (hn : n = L.length) (hN : Kd.N brK 35 w base ok (.slice A n c) L) (i : Nat) (hi : i ≤ L.length) {AV : Option Addr} {vc : Nat} {x : List Int × List Int} (hV : Kd.N brK 35 w baseV okv (.slice AV 1 vc) [x])
    (hok : ∀ k, okv k → ok k ∧ some k ≠ (Value.slice A n c).ownBlock) (hfresh : ∀ k, w.heap.size ≤ k → ok k) (hb : base ≤ w.heap.size) (hL : L.length ≤ 1000000) :
    Calls Try.prog 30 #[.slice A n c, .int .i64 (i : Int), .slice AV 1 vc] w fun e w' => ∃ v', e = .returned v' ∧ Kd.N brK 35 w' base ok v' (L.take i ++ [x] ++ L.drop i) ∧ Below base w w' := by
  subst hn
  exact slIns_calls hN i hi hV hok hfresh hb hL
set_option maxHeartbeats 8000000 in
set_option maxRecDepth 100000 in
theorem insNew_calls (W : World) (B : Nat) (A : Option Addr) (c : Nat) (R : List (List Int × List Int)) (A1 : Option Addr) (c1 : Nat) (a1 : List Int) (A2 : Option Addr) (c2 : Nat) (a2 : List Int) (H : Aside0 (BasisIs W B a1.length a2.length A c R)) (HR : Aside0 (RowsOk a1.length a2.length R)) (hg : Aside0 (0 < a1.length ∧ a1.length < 1000 ∧ a2.length < 1000)) (hRl : Aside0 (R.length < 1000))
    (H1 : Aside0 (Kd.C (Kd.int .u8) W A1 a1.length a1)) (C1 : Aside0 (a1.length ≤ c1)) (H2 : Aside0 (Kd.C (Kd.int .u8) W A2 a2.length a2)) (C2 : Aside0 (a2.length ≤ c2)) (L1 : Aside0 (areB a1)) (L2 : Aside0 (areB a2))
    (q : List Int × List Int) (HQ : Aside0 (q = redP R (a1, a2) R.length)) (HZ : Aside0 ((q.1.all fun z => z == 0) = false)) (k : Nat) (z : Int) (HK : Aside0 (leadN q.1 = (k : Int))) (hk : k < q.1.length) (hz : q.1.getD k 0 = z) (hz0 : z ≠ 0)
    (s1 s2 : List Int) (HS1 : s1 = q.1.map fun x => gm x (gi z)) (HS2 : s2 = q.2.map fun x => gm x (gi z)) (P : Nat → Prop) (hPB : Aside0 (∀ j, P j → j ≠ B)) (HP : Aside0 (Kd.F brK W P A R.length R)) :
    Calls Try.prog 8 #[.pointer (some ⟨B, 0, none⟩), .agg #[.slice A1 a1.length c1, .slice A2 a2.length c2]] W fun e w' => ∃ (A' : Option Addr) (c' : Nat) (W1 : World), e = .returned (.tuple #[.bool true, .int .i64 0]) ∧ Below W.heap.size W W1 ∧ w' = W1.setCell ⟨B, 2, none⟩ (.slice A' ((R.map (cl2 s1 s2 k)).take (R.findIdx (fun x => decide (leadN x.1 > (k : Int)))) ++ [(s1, s2)] ++ (R.map (cl2 s1 s2 k)).drop (R.findIdx (fun x => decide (leadN x.1 > (k : Int))))).length c') ∧ BasisIs w' B a1.length a2.length A' c' ((R.map (cl2 s1 s2 k)).take (R.findIdx (fun x => decide (leadN x.1 > (k : Int)))) ++ [(s1, s2)] ++ (R.map (cl2 s1 s2 k)).drop (R.findIdx (fun x => decide (leadN x.1 > (k : Int))))) ∧ Kd.F brK w' (okR P W.heap.size) A' ((R.map (cl2 s1 s2 k)).take (R.findIdx (fun x => decide (leadN x.1 > (k : Int)))) ++ [(s1, s2)] ++ (R.map (cl2 s1 s2 k)).drop (R.findIdx (fun x => decide (leadN x.1 > (k : Int))))).length ((R.map (cl2 s1 s2 k)).take (R.findIdx (fun x => decide (leadN x.1 > (k : Int)))) ++ [(s1, s2)] ++ (R.map (cl2 s1 s2 k)).drop (R.findIdx (fun x => decide (leadN x.1 > (k : Int))))) := by
  have BL := Aside0.mk (WorkIs.heap_lt' H.out.blk)
  have QO := Aside0.mk (redP_ok HR.out (r := (a1, a2)) ⟨rfl, L1.out⟩ ⟨rfl, L2.out⟩ R.length (Nat.le_refl _))
  rw [← HQ.out] at QO
  have QL := Aside0.mk (show q.1.length < 9223372036854775807 from by have := QO.out.1.1; have := hg.out; omega)
  have HKz := Aside0.mk (And.intro hk hz)
  have hzB : isB z := by rw [← hz]; exact getD_isB QO.out.1.2 k
  have hgi : isB (gi z) := ofG_range _
  have EI := Aside0.mk (show field_Inv.f z = some (gi z, 0) from by unfold field_Inv.f; rw [if_pos hzB, if_neg hz0])
  have EL := Aside0.mk (show vector_Lead.f q.1 = some (k : Int) from by unfold vector_Lead.f; rw [if_pos QL.out, HK.out])
  have E1 := Aside0.mk (show vector_Scale.f q.1 (gi z) = some s1 from by unfold vector_Scale.f; rw [if_pos ⟨by have := QO.out.1.1; have := hg.out; unfold vN; omega, QO.out.1.2, hgi⟩, HS1])
  have E2 := Aside0.mk (show vector_Scale.f q.2 (gi z) = some s2 from by unfold vector_Scale.f; rw [if_pos ⟨by have := QO.out.2.1; have := hg.out; unfold vN; omega, QO.out.2.2, hgi⟩, HS2])
  have SL1 := Aside0.mk (show s1.length = a1.length ∧ areB s1 from ⟨by rw [HS1, List.length_map]; exact QO.out.1.1, by rw [HS1]; intro x hx; obtain ⟨y, -, rfl⟩ := List.mem_map.1 hx; exact ofG_range _⟩)
  have SL2 := Aside0.mk (show s2.length = a2.length ∧ areB s2 from ⟨by rw [HS2, List.length_map]; exact QO.out.2.1, by rw [HS2]; intro x hx; obtain ⟨y, -, rfl⟩ := List.mem_map.1 hx; exact ofG_range _⟩)
  have q4 := eq_true (Int.natCast_nonneg k)
  have q5 := eq_true (Int.ofNat_lt.2 hk)
  have q6 := eq_true hk
  clear hk hz hz0 HS1 HS2 hzB hgi
  go_enter Try.func8, Try.ntmps8
  go_upto_region 1 with fail
  have HW := Aside0.mk (show Below W.heap.size W (W.alloc (.cells #[.slice A1 a1.length c1, .slice A2 a2.length c2] 35)) from below_alloc (Below.refl _ _) _)
  have K1 := Aside0.mk (alloc_at W #[.slice A1 a1.length c1, .slice A2 a2.length c2] 35 rfl)
  replace H1 := Aside0.mk (Kd.C_below H1.out HW.out)
  replace H2 := Aside0.mk (Kd.C_below H2.out HW.out)
  generalize W.alloc (.cells #[.slice A1 a1.length c1, .slice A2 a2.length c2] 35) = w1 at HW K1 H1 H2 ⊢
  go_upto_region 3 with (go_at_call 23; with_reducible refine (madeB_calls w1 B a1.length a2.length A c R (H.out.step HW.out) hg.out.1).mono ?_; rintro e w2 ⟨rfl, rfl⟩)
  have x0 := (H.out.step HW.out).c0
  have x1 := (H.out.step HW.out).c1
  have b0 := box0 K1.out
  have b1 := box1 K1.out
  go_quiet (fail)
  have hb := pw_below_drewN (Below.refl w2.heap.size w2) nq
  clear x0 x1 b0 b1
  replace H1 := Aside0.mk (Kd.C_below H1.out hb)
  replace H2 := Aside0.mk (Kd.C_below H2.out hb)
  replace K1 := box_step K1 hb
  replace HW := Aside0.mk (HW.out.trans (hb.mono HW.out.size))
  clear hb
  generalize w2.drewN nq = w3 at H1 H2 K1 HW ⊢
  have b0 := box0 K1.out
  have b1 := box1 K1.out
  have N3 := Aside0.mk (WorkIs.heap_lt' K1.out)
  go_upto_region 6 with (first
    | (go_at_call 25; with_reducible refine (own_calls A1 c1 a1 A2 c2 a2 _ H1 C1 H2 C2 ⟨by have := hg.out; omega⟩ ⟨by have := hg.out; omega⟩).mono ?_; rintro e w4 ⟨A5, c5, A6, c6, rfl, hl5, hl6, hf5, hf6, hb⟩; have L5 := Aside0.mk hl5; have L6 := Aside0.mk hl6; have F5 := Aside0.mk (Kd.F_mono hf5 (ok' := fun j => W.heap.size < j) (fun j hj => by have := N3.out; omega)); have F6 := Aside0.mk (Kd.F_mono hf6 (ok' := fun j => W.heap.size < j) (fun j hj => by have := N3.out; omega)); replace K1 := box_step K1 hb; replace HW := Aside0.mk (HW.out.trans (hb.mono HW.out.size)); clear hl5 hl6 hf5 hf6 hb b0 b1)
    | (go_at_call 24; with_reducible refine (redB_calls _ B a1.length a2.length A c R ⟨H.out.step HW.out⟩ a1.length a2.length HR hg.out.2.1 hg.out.2.2 hRl (fun j => W.heap.size < j) A5 c5 a1 A6 c6 a2 F5 L5 F6 L6 ⟨rfl, L1.out⟩ ⟨rfl, L2.out⟩).mono ?_; rintro e w5 ⟨A7, c7, A8, c8, rfl, hl7, hl8, hf7, hf8, hb⟩; have L7 := Aside0.mk hl7; have L8 := Aside0.mk hl8; have N4 := Aside0.mk (WorkIs.heap_lt' K1.out); have F7 := Aside0.mk (Kd.F_mono hf7 (ok' := fun j => W.heap.size < j) (fun j hj => by have := N4.out; omega)); have F8 := Aside0.mk (Kd.F_mono hf8 (ok' := fun j => W.heap.size < j) (fun j hj => by have := N4.out; omega)); replace K1 := box_step K1 hb; replace HW := Aside0.mk (HW.out.trans (hb.mono HW.out.size)); clear hl7 hl8 hf7 hf8 hb F5 F6; have b0 := box0 K1.out; have b1 := box1 K1.out; have z0 := boxF K1.out 0; have z1 := boxF K1.out 1))
  clear b0 b1 z0 z1
  rw [← HQ.out] at L7 L8 F7 F8 ⊢
  have hfar : ∀ j, W.heap.size < j → j ≠ W.heap.size := fun j hj => by omega
  replace F7 := Aside0.mk (Kd.F_far (Kd.F_far F7.out (p := ⟨W.heap.size, 0, none⟩) hfar (.slice A7 q.1.length c7)) (p := ⟨W.heap.size, 1, none⟩) hfar (.slice A8 q.2.length c8))
  replace F8 := Aside0.mk (Kd.F_far (Kd.F_far F8.out (p := ⟨W.heap.size, 0, none⟩) hfar (.slice A7 q.1.length c7)) (p := ⟨W.heap.size, 1, none⟩) hfar (.slice A8 q.2.length c8))
  replace K1 := Aside0.mk (box_set (u' := .slice A7 q.1.length c7) (v' := .slice A8 q.2.length c8) K1.out)
  replace HW := Aside0.mk ((HW.out.setCell (p := ⟨W.heap.size, 0, none⟩) (Nat.le_refl _) (.slice A7 q.1.length c7)).setCell (p := ⟨W.heap.size, 1, none⟩) (Nat.le_refl _) (.slice A8 q.2.length c8))
  generalize ((w5.setCell ⟨W.heap.size, 0, none⟩ (.slice A7 q.1.length c7)).setCell ⟨W.heap.size, 1, none⟩ (.slice A8 q.2.length c8)) = w6 at F7 F8 K1 HW ⊢
  have b0 := box0 K1.out
  go_upto_region 8 with (go_at_call 22; with_reducible refine (isZ_at A7 c7 q.1 false _ (Kd.F_now F7.out) L7.out QL.out HZ.out).mono ?_; rintro e w7 ⟨rfl, hb⟩; replace F7 := Aside0.mk (Kd.F_below F7.out hb); replace F8 := Aside0.mk (Kd.F_below F8.out hb); replace K1 := box_step K1 hb; replace HW := Aside0.mk (HW.out.trans (hb.mono HW.out.size)); clear hb b0; have b0 := box0 K1.out)
  go_upto_region 9 with (go_at_call 21; with_reducible refine (vector_Lead.calls A7 c7 q.1 (k : Int) _ (Kd.F_now F7.out) L7.out EL.out).mono ?_; rintro e wl ⟨rfl, hd⟩; have hb := drawn_below hd; replace F7 := Aside0.mk (Kd.F_below F7.out hb); replace F8 := Aside0.mk (Kd.F_below F8.out hb); replace K1 := box_step K1 hb; replace HW := Aside0.mk (HW.out.trans (hb.mono HW.out.size)); clear hd hb b0; have b0 := box0 K1.out)
  obtain ⟨adq, hA7, hcell⟩ := Kd.at_int (Kd.F_now F7.out) (k : Int) (by omega) (by have := HKz.out.1; omega)
  rw [Int.toNat_natCast, show rd q.1 (k : Int) = z from by unfold rd; rw [Int.toNat_natCast]; exact HKz.out.2] at hcell
  subst hA7
  go_upto_region 10 with (go_at_call 26; with_reducible refine (field_Inv.calls z (gi z) 0 _ EI.out).mono ?_; rintro e wi ⟨rfl, hb⟩; replace F7 := Aside0.mk (Kd.F_below F7.out hb); replace F8 := Aside0.mk (Kd.F_below F8.out hb); replace K1 := box_step K1 hb; replace HW := Aside0.mk (HW.out.trans (hb.mono HW.out.size)); clear hb)
  refine start_ (n := 10) (S := fun w' => w'.cell? ⟨W.heap.size, 0, none⟩ = some (.slice (some adq) q.1.length c7) ∧ w'.cell? ⟨W.heap.size, 1, none⟩ = some (.slice A8 q.2.length c8)) (ds := [9]) #[false, false, false, false, false, false, false, false, false, false] (by kernel_rfl) rfl rfl ⟨(by simpa using box0 K1.out), (by simpa using box1 K1.out)⟩ (fun hHeld => ?_)
  have hb := below_drew (Below.refl wi.heap.size wi)
  replace F7 := Aside0.mk (Kd.F_below F7.out hb)
  replace F8 := Aside0.mk (Kd.F_below F8.out hb)
  replace K1 := box_step K1 hb
  replace HW := Aside0.mk (HW.out.trans (hb.mono HW.out.size))
  clear hb b0 hcell
  generalize wi.drew = wd at F7 F8 K1 HW hHeld ⊢
  refine pure_ (i := 0) (N := some 54) (v := ?_) (a' := ?_) #[true, false, false, false, false, false, false, false, false, false] rfl rfl (by kernel_rfl) (fun _ _ _ h => h) (Or.inl ⟨by rfl, ?_⟩) ?_ ?_
  rotate_left
  · intro w'
    go_simp
    with_reducible rfl
  rotate_left
  · simp only [Act.put, List.setIfInBounds_toArray, List.set_cons_zero, List.set_cons_succ, i64_w, i32_w]
    rfl
  refine pure_ (i := 2) (N := some 56) (v := ?_) (a' := ?_) #[true, false, true, false, false, false, false, false, false, false] rfl rfl (by kernel_rfl) (fun _ _ _ h => h) (Or.inl ⟨by rfl, ?_⟩) ?_ ?_
  rotate_left
  · intro w'
    go_simp
    with_reducible rfl
  rotate_left
  · simp only [Act.put, List.setIfInBounds_toArray, List.set_cons_zero, List.set_cons_succ, i64_w, i32_w]
    rfl
  refine pure_ (i := 4) (N := some 58) (v := ?_) (a' := ?_) #[true, false, true, false, true, false, false, false, false, false] rfl rfl (by kernel_rfl) (fun _ _ _ h => h) (Or.inl ⟨by rfl, ?_⟩) ?_ ?_
  rotate_left
  · intro w'
    go_simp
    with_reducible rfl
  rotate_left
  · simp only [Act.put, List.setIfInBounds_toArray, List.set_cons_zero, List.set_cons_succ, i64_w, i32_w]
    rfl
  refine pure_ (i := 6) (N := some 60) (v := ?_) (a' := ?_) #[true, false, true, false, true, false, true, false, false, false] rfl rfl (by kernel_rfl) (fun _ _ _ h => h) (Or.inl ⟨by rfl, ?_⟩) ?_ ?_
  rotate_left
  · intro w'
    go_simp
    with_reducible rfl
  rotate_left
  · simp only [Act.put, List.setIfInBounds_toArray, List.set_cons_zero, List.set_cons_succ, i64_w, i32_w]
    rfl
  refine take_ (i := 1) (N := some 55) (v := ?_) (a' := ?_) #[true, true, true, false, true, false, true, false, false, false] rfl rfl (by kernel_rfl) (fun _ _ _ h => h) (Or.inl ⟨by rfl, ?_⟩) hHeld ?_ ?_
  rotate_left
  · rintro w' ⟨s0, s1⟩
    go_simp
    with_reducible rfl
  rotate_left
  · simp only [Act.put, List.setIfInBounds_toArray, List.set_cons_zero, List.set_cons_succ, i64_w, i32_w]
    rfl
  refine take_ (i := 5) (N := some 59) (v := ?_) (a' := ?_) #[true, true, true, false, true, true, true, false, false, false] rfl rfl (by kernel_rfl) (fun _ _ _ h => h) (Or.inl ⟨by rfl, ?_⟩) hHeld ?_ ?_
  rotate_left
  · rintro w' ⟨s0, s1⟩
    go_simp
    with_reducible rfl
  rotate_left
  · simp only [Act.put, List.setIfInBounds_toArray, List.set_cons_zero, List.set_cons_succ, i64_w, i32_w]
    rfl
  refine one_ (i := 3) (N := some 57) #[true, true, true, true, true, true, true, false, false, false] rfl rfl (by kernel_rfl) (by decide) (fun K hK => ?_)
  refine goes_ Try.func27 (by kernel_rfl) rfl #[.slice (some adq) q.1.length c7, .int .u8 (gi z)] (by rfl) rfl rfl (by simp only [List.map_toArray, List.map_cons, List.map_nil]; rfl) ?_
  with_reducible refine (vector_Scale.calls (some adq) c7 q.1 (gi z) s1 _ (Kd.F_now F7.out) L7.out E1.out).mono ?_
  rintro e w8 ⟨v_, rfl, hR, hb⟩
  refine ⟨_, rfl, ?_⟩
  obtain ⟨A9, c9, rfl, hl, hf⟩ := new_F hR
  have L9 := Aside0.mk hl
  have F9 := Aside0.mk (Kd.F_mono hf (ok' := fun j => W.heap.size < j) (fun j hj => by have := WorkIs.heap_lt' K1.out; omega))
  clear hl hf hR
  replace K1 := box_step K1 hb
  replace HW := Aside0.mk (HW.out.trans (hb.mono HW.out.size))
  replace F8 := Aside0.mk (Kd.F_below F8.out hb)
  refine hK.out _ _ ⟨(box0 K1.out), (box1 K1.out)⟩ (fun hHeld => ?_)
  clear hK K
  refine norm_ (a' := ?_) ?_ ?_
  rotate_left
  · show Act.put _ (some 57) _ = _
    simp only [Act.put, List.setIfInBounds_toArray, List.set_cons_zero, List.set_cons_succ, i64_w, i32_w]
    rfl
  refine one_ (i := 7) (N := some 61) #[true, true, true, true, true, true, true, true, false, false] rfl rfl (by kernel_rfl) (by decide) (fun K hK => ?_)
  refine goes_ Try.func27 (by kernel_rfl) rfl #[.slice A8 q.2.length c8, .int .u8 (gi z)] (by rfl) rfl rfl (by simp only [List.map_toArray, List.map_cons, List.map_nil]; rfl) ?_
  with_reducible refine (vector_Scale.calls A8 c8 q.2 (gi z) s2 _ (Kd.F_now F8.out) L8.out E2.out).mono ?_
  rintro e w9 ⟨v_, rfl, hR, hb⟩
  refine ⟨_, rfl, ?_⟩
  obtain ⟨A10, c10, rfl, hl, hf⟩ := new_F hR
  have L10 := Aside0.mk hl
  have F10 := Aside0.mk (Kd.F_mono hf (ok' := fun j => W.heap.size < j) (fun j hj => by have := WorkIs.heap_lt' K1.out; omega))
  clear hl hf hR
  replace K1 := box_step K1 hb
  replace HW := Aside0.mk (HW.out.trans (hb.mono HW.out.size))
  replace F9 := Aside0.mk (Kd.F_below F9.out hb)
  refine hK.out _ _ ⟨(box0 K1.out), (box1 K1.out)⟩ (fun hHeld => ?_)
  clear hK K
  refine norm_ (a' := ?_) ?_ ?_
  rotate_left
  · show Act.put _ (some 61) _ = _
    simp only [Act.put, List.setIfInBounds_toArray, List.set_cons_zero, List.set_cons_succ, i64_w, i32_w]
    rfl
  refine pure_ (i := 8) (N := some 62) (v := ?_) (a' := ?_) #[true, true, true, true, true, true, true, true, true, false] rfl rfl (by kernel_rfl) (fun _ _ _ h => h) (Or.inl ⟨by rfl, ?_⟩) ?_ ?_
  rotate_left
  · intro w'
    go_simp
    with_reducible rfl
  rotate_left
  · simp only [Act.put, List.setIfInBounds_toArray, List.set_cons_zero, List.set_cons_succ, i64_w, i32_w]
    rfl
  have y0 := box0 K1.out
  have y1 := box1 K1.out
  have z0 := boxF K1.out 0
  have z1 := boxF K1.out 1
  refine last_ (i := 9) (N := none) #[true, true, true, true, true, true, true, true, true, true] rfl rfl (by kernel_rfl) (by decide) (fun K hK => ?_)
  refine skip_ (w1 := ?_) (by rfl) rfl ?_ ?_
  rotate_left
  · go_simp
    rfl
  refine hK.out _ _ ?_
  clear hK K
  refine done_ (by kernel_rfl) ?_
  clear y0 y1 z0 z1
  replace F9 := Aside0.mk (Kd.F_far (Kd.F_far F9.out (p := ⟨W.heap.size, 0, none⟩) hfar (.slice A9 s1.length c9)) (p := ⟨W.heap.size, 1, none⟩) hfar (.slice A10 s2.length c10))
  replace F10 := Aside0.mk (Kd.F_far (Kd.F_far F10.out (p := ⟨W.heap.size, 0, none⟩) hfar (.slice A9 s1.length c9)) (p := ⟨W.heap.size, 1, none⟩) hfar (.slice A10 s2.length c10))
  replace K1 := Aside0.mk (box_set (u' := .slice A9 s1.length c9) (v' := .slice A10 s2.length c10) K1.out)
  replace HW := Aside0.mk ((HW.out.setCell (p := ⟨W.heap.size, 0, none⟩) (Nat.le_refl _) (.slice A9 s1.length c9)).setCell (p := ⟨W.heap.size, 1, none⟩) (Nat.le_refl _) (.slice A10 s2.length c10))
  generalize ((w9.setCell ⟨W.heap.size, 0, none⟩ (.slice A9 s1.length c9)).setCell ⟨W.heap.size, 1, none⟩ (.slice A10 s2.length c10)) = wS at F9 F10 K1 HW ⊢
  clear F7 F8 L7 L8 hfar
  have M0L := Aside0.mk (WorkIs.heap_lt' K1.out)
  replace F9 := Aside0.mk (Kd.F_bound F9.out)
  replace F10 := Aside0.mk (Kd.F_bound F10.out)
  have x2 := (H.out.step HW.out).c2
  have HRF := Aside0.mk (Kd.F_below (Kd.F_bound HP.out) HW.out)
  go_upto_region 12 with (go_at_call 28; with_reducible refine (brClone_calls (fun j => P j ∧ j < W.heap.size) A c R _ HRF.out H.out.cap (by have := hRl.out; omega)).mono ?_; rintro e wC ⟨v_, rfl, hN_, hb⟩; obtain ⟨AR, cR, rfl⟩ := Kd.N_slice hN_; have HN := Aside0.mk (Kd.N_mono (ok' := okR P W.heap.size) hN_ (fun j hj => by rcases hj with h | h; exact okR_l h.1; exact okR_r (by have := M0L.out; omega))); replace F9 := Aside0.mk (Kd.F_below F9.out hb); replace F10 := Aside0.mk (Kd.F_below F10.out hb); replace K1 := box_step K1 hb; have HMC := Aside0.mk hb.size; replace HW := Aside0.mk (HW.out.trans (hb.mono HW.out.size)); clear hb hN_ x2)
  clear HRF
  obtain ⟨M0, hM0⟩ : ∃ M0, M0 = wS.heap.size := ⟨_, rfl⟩
  rw [← hM0] at HN F9 F10 M0L HMC
  clear hM0
  have HN0 := Aside0.mk (show Kd.N brK 35 wC M0 (okR P W.heap.size) (.slice AR R.length cR) (mixR R (cl2 s1 s2 k) 0) from HN.out)
  go_wp2
  go_loopg [70] R.length (fun kq v70 w' => ∃ i : Nat, v70 = .int .i64 (i : Int) ∧ Aside0 (kq + i = R.length) ∧ Aside0 (Kd.N brK 35 w' M0 (okR P W.heap.size) (.slice AR R.length cR) (mixR R (cl2 s1 s2 k) i)) ∧ Aside0 (w'.heap[W.heap.size]? = some (.cells #[.slice A9 s1.length c9, .slice A10 s2.length c10] 35 (0, 0))) ∧ Aside0 (Kd.F (Kd.int .u8) w' (fun j => W.heap.size < j ∧ j < M0) A9 s1.length s1) ∧ Aside0 (Kd.F (Kd.int .u8) w' (fun j => W.heap.size < j ∧ j < M0) A10 s2.length s2) ∧ Aside0 (M0 ≤ w'.heap.size) ∧ Aside0 (Below W.heap.size W w'))
  case atStart => exact ⟨0, rfl, ⟨by omega⟩, HN0, K1, F9, F10, HMC, HW⟩
  case round =>
    clear HN0 HN K1 F9 F10 HW HMC
    obtain ⟨i, rfl, HI, HN, K1, F9, F10, HMC, HW⟩ := hrel
    by_cases hi : i < R.length
    · have p1 : (i : Int) < (R.length : Int) := Int.ofNat_lt.2 hi
      have r1 : decide ((i : Int) < (R.length : Int)) = true := decide_eq_true p1
      have r4 := eq_true (Int.natCast_nonneg i)
      have r5 := eq_true p1
      have r6 := eq_true hi
      have Hi := Aside0.mk hi
      have hml := mixR_length R (cl2 s1 s2 k) (Nat.le_of_lt hi)
      obtain ⟨G, capG, ev, hGb, -, -⟩ := Kd.N_form HN.out (by rw [hml]; omega)
      injection ev with ev1 ev2 ev3
      subst ev1 ev3
      have GB := Aside0.mk hGb
      have LI := Aside0.mk (show i < (mixR R (cl2 s1 s2 k) i).length from by rw [hml]; exact hi)
      have ML := Aside0.mk hml
      replace HN := Aside0.mk (show Kd.N brK 35 wr M0 (okR P W.heap.size) (.slice (some ⟨G, 0, none⟩) (mixR R (cl2 s1 s2 k) i).length cR) (mixR R (cl2 s1 s2 k) i) from by rw [hml]; exact HN.out)
      obtain ⟨D1, d1, D2, d2, hx1, hx2, -, -, k1, k2, f1, f2⟩ := brN_row HN.out LI.out
      have hat := mixR_at R (cl2 s1 s2 k) hi LI.out
      rw [hat] at hx1 hx2 k1 k2 f1 f2
      have HM := HR.out _ (List.getElem_mem hi)
      obtain ⟨x, hxe⟩ : ∃ x, x = R[i]'(Hi.out) := ⟨_, rfl⟩
      rw [← hxe] at hx1 hx2 k1 k2 f1 f2 HM
      have HXE := Aside0.mk hxe
      obtain ⟨⟨m1, m2⟩, ⟨m3, m4⟩, -⟩ := HM
      have hnx := bas_next i (by have := hRl.out; omega)
      have hkx : k < x.1.length := by rw [m1, ← QO.out.1.1]; exact HKz.out.1
      obtain ⟨adx, hax, hcell⟩ := Kd.at_int (Kd.F_now f1) (k : Int) (by omega) (by omega)
      subst hax
      rw [Int.toNat_natCast, show rd x.1 (k : Int) = x.1.getD k 0 from by unfold rd; rw [Int.toNat_natCast]] at hcell
      obtain ⟨zc, hzc⟩ : ∃ zc, zc = x.1.getD k 0 := ⟨_, rfl⟩
      have hzB : isB zc := by rw [hzc]; exact getD_isB m2 k
      rw [← hzc] at hcell
      have HZC := Aside0.mk hzc
      have P1 := Aside0.mk (as_f (a := x.1) (b := s1) (c := zc) (by rw [m1]; exact SL1.out.1.symm) (by have := hg.out; unfold vN; omega) SL1.out.2 hzB)
      have P2 := Aside0.mk (as_f (a := x.2) (b := s2) (c := zc) (by rw [m3]; exact SL2.out.1.symm) (by have := hg.out; unfold vN; omega) SL2.out.2 hzB)
      have HC := Aside0.mk hcell
      have G1 := Aside0.mk f1
      have G2 := Aside0.mk f2
      have KA1 := Aside0.mk k1
      have KA2 := Aside0.mk k2
      have t5 := eq_true (Int.ofNat_lt.2 hkx)
      have t6 := eq_true hkx
      clear p1 hi hxe m1 m2 m3 m4 hzB hzc hcell f1 f2 k1 k2 hml hGb hat hkx ev2
      cases gk with
      | zero => exact absurd HI.out (by have := Hi.out; omega)
      | succ k1 =>
      go_upto_region 15 with fail
      clear hx1 hx2
      have hb := below_alloc (Below.refl wr.heap.size wr) (.cells #[.slice (some adx) x.1.length d1, .slice D2 x.2.length d2] 35)
      have KX := Aside0.mk (alloc_at wr #[.slice (some adx) x.1.length d1, .slice D2 x.2.length d2] 35 rfl)
      replace K1 := box_step K1 hb
      replace HC := Aside0.mk ((hb.cell (World.block_lt_of_cell? _ _ HC.out)).trans HC.out)
      replace HN := Aside0.mk (Kd.N_below HN.out hb)
      replace F9 := Aside0.mk (Kd.F_below F9.out hb)
      replace F10 := Aside0.mk (Kd.F_below F10.out hb)
      replace G1 := Aside0.mk (Kd.F_below G1.out hb)
      replace G2 := Aside0.mk (Kd.F_below G2.out hb)
      replace HW := Aside0.mk (HW.out.trans (hb.mono HW.out.size))
      replace HMC := Aside0.mk (Nat.le_trans HMC.out hb.size)
      clear hb
      generalize wr.alloc (.cells #[.slice (some adx) x.1.length d1, .slice D2 x.2.length d2] 35) = wx at KX K1 HC HN F9 F10 G1 G2 HW HMC ⊢
      refine start_ (n := 12) (S := fun w' => w'.cell? ⟨wr.heap.size, 0, none⟩ = some (.slice (some adx) x.1.length d1) ∧ w'.cell? ⟨wr.heap.size, 1, none⟩ = some (.slice D2 x.2.length d2) ∧ w'.cell? ⟨W.heap.size, 0, none⟩ = some (.slice A9 s1.length c9) ∧ w'.cell? ⟨W.heap.size, 1, none⟩ = some (.slice A10 s2.length c10) ∧ w'.cell? (adx.add k) = some (.int .u8 zc)) (ds := [11]) #[false, false, false, false, false, false, false, false, false, false, false, false] (by kernel_rfl) rfl rfl ⟨(by simpa using box0 KX.out), (by simpa using box1 KX.out), (by simpa using box0 K1.out), (by simpa using box1 K1.out), (by simpa using HC.out)⟩ (fun hHeld => ?_)
      have hb := below_drew (Below.refl wx.heap.size wx)
      replace KX := box_step KX hb
      replace K1 := box_step K1 hb
      replace HC := Aside0.mk ((hb.cell (World.block_lt_of_cell? _ _ HC.out)).trans HC.out)
      replace HN := Aside0.mk (Kd.N_below HN.out hb)
      replace F9 := Aside0.mk (Kd.F_below F9.out hb)
      replace F10 := Aside0.mk (Kd.F_below F10.out hb)
      replace G1 := Aside0.mk (Kd.F_below G1.out hb)
      replace G2 := Aside0.mk (Kd.F_below G2.out hb)
      replace HW := Aside0.mk (HW.out.trans (hb.mono HW.out.size))
      have hs5_ := hb.size
      clear hb
      generalize wx.drew = wd at KX K1 HC HN F9 F10 G1 G2 HW hs5_ hHeld ⊢
      refine pure_ (i := 0) (N := some 75) (v := ?_) (a' := ?_) #[true, false, false, false, false, false, false, false, false, false, false, false] rfl rfl (by kernel_rfl) (fun _ _ _ h => h) (Or.inl ⟨by rfl, ?_⟩) ?_ ?_
      rotate_left
      · intro w'
        go_simp
        with_reducible rfl
      rotate_left
      · simp only [Act.put, List.setIfInBounds_toArray, List.set_cons_zero, List.set_cons_succ, i64_w, i32_w]
        rfl
      refine pure_ (i := 1) (N := some 76) (v := ?_) (a' := ?_) #[true, true, false, false, false, false, false, false, false, false, false, false] rfl rfl (by kernel_rfl) (fun _ _ _ h => h) (Or.inl ⟨by rfl, ?_⟩) ?_ ?_
      rotate_left
      · intro w'
        go_simp
        with_reducible rfl
      rotate_left
      · simp only [Act.put, List.setIfInBounds_toArray, List.set_cons_zero, List.set_cons_succ, i64_w, i32_w]
        rfl
      refine pure_ (i := 4) (N := some 79) (v := ?_) (a' := ?_) #[true, true, false, false, true, false, false, false, false, false, false, false] rfl rfl (by kernel_rfl) (fun _ _ _ h => h) (Or.inl ⟨by rfl, ?_⟩) ?_ ?_
      rotate_left
      · intro w'
        go_simp
        with_reducible rfl
      rotate_left
      · simp only [Act.put, List.setIfInBounds_toArray, List.set_cons_zero, List.set_cons_succ, i64_w, i32_w]
        rfl
      refine pure_ (i := 6) (N := some 81) (v := ?_) (a' := ?_) #[true, true, false, false, true, false, true, false, false, false, false, false] rfl rfl (by kernel_rfl) (fun _ _ _ h => h) (Or.inl ⟨by rfl, ?_⟩) ?_ ?_
      rotate_left
      · intro w'
        go_simp
        with_reducible rfl
      rotate_left
      · simp only [Act.put, List.setIfInBounds_toArray, List.set_cons_zero, List.set_cons_succ, i64_w, i32_w]
        rfl
      refine take_ (i := 2) (N := some 77) (v := ?_) (a' := ?_) #[true, true, true, false, true, false, true, false, false, false, false, false] rfl rfl (by kernel_rfl) (fun _ _ _ h => h) (Or.inl ⟨by rfl, ?_⟩) hHeld ?_ ?_
      rotate_left
      · rintro w' ⟨s0, s1, s2, s3, s4⟩
        go_simp
        with_reducible rfl
      rotate_left
      · simp only [Act.put, List.setIfInBounds_toArray, List.set_cons_zero, List.set_cons_succ, i64_w, i32_w]
        rfl
      refine take_ (i := 3) (N := some 78) (v := ?_) (a' := ?_) #[true, true, true, true, true, false, true, false, false, false, false, false] rfl rfl (by kernel_rfl) (fun _ _ _ h => h) (Or.inl ⟨by rfl, ?_⟩) hHeld ?_ ?_
      rotate_left
      · rintro w' ⟨s0, s1, s2, s3, s4⟩
        go_simp
        with_reducible rfl
      rotate_left
      · simp only [Act.put, List.setIfInBounds_toArray, List.set_cons_zero, List.set_cons_succ, i64_w, i32_w]
        rfl
      refine take_ (i := 5) (N := some 80) (v := ?_) (a' := ?_) #[true, true, true, true, true, true, true, false, false, false, false, false] rfl rfl (by kernel_rfl) (fun _ _ _ h => h) (Or.inl ⟨by rfl, ?_⟩) hHeld ?_ ?_
      rotate_left
      · rintro w' ⟨s0, s1, s2, s3, s4⟩
        go_simp
        with_reducible rfl
      rotate_left
      · simp only [Act.put, List.setIfInBounds_toArray, List.set_cons_zero, List.set_cons_succ, i64_w, i32_w]
        rfl
      refine pure_ (i := 7) (N := some 82) (v := ?_) (a' := ?_) #[true, true, true, true, true, true, true, true, false, false, false, false] rfl rfl (by kernel_rfl) (fun _ _ _ h => h) (Or.inl ⟨by rfl, ?_⟩) ?_ ?_
      rotate_left
      · intro w'
        go_simp
        with_reducible rfl
      rotate_left
      · simp only [Act.put, List.setIfInBounds_toArray, List.set_cons_zero, List.set_cons_succ, i64_w, i32_w]
        rfl
      refine take_ (i := 8) (N := some 83) (v := ?_) (a' := ?_) #[true, true, true, true, true, true, true, true, true, false, false, false] rfl rfl (by kernel_rfl) (fun _ _ _ h => h) (Or.inl ⟨by rfl, ?_⟩) hHeld ?_ ?_
      rotate_left
      · rintro w' ⟨s0, s1, s2, s3, s4⟩
        go_simp
        with_reducible rfl
      rotate_left
      · simp only [Act.put, List.setIfInBounds_toArray, List.set_cons_zero, List.set_cons_succ, i64_w, i32_w]
        rfl
      refine one_ (i := 9) (N := some 84) #[true, true, true, true, true, true, true, true, true, true, false, false] rfl rfl (by kernel_rfl) (by decide) (fun K hK => ?_)
      refine goes_ Try.func29 (by kernel_rfl) rfl #[.agg #[.slice (some adx) x.1.length d1, .slice D2 x.2.length d2], .agg #[.slice A9 s1.length c9, .slice A10 s2.length c10], .int .u8 zc] (by rfl) rfl rfl (by simp only [List.map_toArray, List.map_cons, List.map_nil]; rfl) ?_
      with_reducible refine (plus_calls (some adx) d1 x.1 D2 d2 x.2 A9 c9 s1 A10 c10 s2 zc (addS x.1 s1 zc) (addS x.2 s2 zc) _ ⟨Kd.F_now G1.out⟩ KA1 ⟨Kd.F_now G2.out⟩ KA2 ⟨Kd.F_now F9.out⟩ L9 ⟨Kd.F_now F10.out⟩ L10 P1 P2).mono ?_
      rintro e w5 ⟨A5, c5, A6, c6, rfl, hl5, hl6, hf5, hf6, hb⟩
      refine ⟨_, rfl, ?_⟩
      have L5 := Aside0.mk hl5
      have L6 := Aside0.mk hl6
      have GL := Aside0.mk (Kd.N_lt HN.out G rfl)
      have FA := Aside0.mk (Kd.F_mono hf5 (ok' := fun j => okR P W.heap.size j ∧ j ≠ G) (fun j hj => ⟨okR_r (by have := WorkIs.heap_lt' K1.out; omega), by have := GL.out; omega⟩))
      have FB := Aside0.mk (Kd.F_mono hf6 (ok' := fun j => okR P W.heap.size j ∧ j ≠ G) (fun j hj => ⟨okR_r (by have := WorkIs.heap_lt' K1.out; omega), by have := GL.out; omega⟩))
      clear hl5 hl6 hf5 hf6
      have hs6_ := hb.size
      replace KX := box_step KX hb
      replace K1 := box_step K1 hb
      replace HC := Aside0.mk ((hb.cell (World.block_lt_of_cell? _ _ HC.out)).trans HC.out)
      replace HN := Aside0.mk (Kd.N_below HN.out hb)
      replace F9 := Aside0.mk (Kd.F_below F9.out hb)
      replace F10 := Aside0.mk (Kd.F_below F10.out hb)
      replace G1 := Aside0.mk (Kd.F_below G1.out hb)
      replace G2 := Aside0.mk (Kd.F_below G2.out hb)
      replace HW := Aside0.mk (HW.out.trans (hb.mono HW.out.size))
      refine hK.out _ _ ⟨(box0 KX.out), (box1 KX.out), (box0 K1.out), (box1 K1.out), HC.out⟩ (fun hHeld => ?_)
      clear hK K
      refine norm_ (a' := ?_) ?_ ?_
      rotate_left
      · show Act.put _ (some 84) _ = _
        simp only [Act.put, List.setIfInBounds_toArray, List.set_cons_zero, List.set_cons_succ, i64_w, i32_w]
        rfl
      refine pure_ (i := 10) (N := some 85) (v := ?_) (a' := ?_) #[true, true, true, true, true, true, true, true, true, true, true, false] rfl rfl (by kernel_rfl) (fun _ _ _ h => h) (Or.inl ⟨by rfl, ?_⟩) ?_ ?_
      rotate_left
      · intro w'
        go_simp
        with_reducible rfl
      rotate_left
      · simp only [Act.put, List.setIfInBounds_toArray, List.set_cons_zero, List.set_cons_succ, i64_w, i32_w]
        rfl
      obtain ⟨B1, e1, B2, e2, y0, y1, z0, z1, -, -, -, -⟩ := brN_row HN.out LI.out
      refine last_ (i := 11) (N := none) #[true, true, true, true, true, true, true, true, true, true, true, true] rfl rfl (by kernel_rfl) (by decide) (fun K hK => ?_)
      refine skip_ (w1 := ?_) (by rfl) rfl ?_ ?_
      rotate_left
      · go_simp
        rfl
      refine hK.out _ _ ?_
      clear hK K
      refine done_ (by kernel_rfl) ?_
      clear y0 y1 z0 z1 KX HC G1 G2
      have HP := brN_put HN.out LI.out (x := (addS x.1 s1 zc, addS x.2 s2 zc)) L5.out FA.out L6.out FB.out
      have hst : (mixR R (cl2 s1 s2 k) i).set i (addS x.1 s1 zc, addS x.2 s2 zc) = mixR R (cl2 s1 s2 k) (i + 1) := by
        have h := mixR_set R (cl2 s1 s2 k) Hi.out
        rw [← HXE.out] at h
        rw [HZC.out]
        exact h
      rw [hst, mixR_length R (cl2 s1 s2 k) (show i + 1 ≤ R.length from Hi.out)] at HP
      have hfar : ∀ j, (W.heap.size < j ∧ j < M0) → j ≠ G := fun j hj => by have := GB.out; omega
      replace HN := Aside0.mk HP
      replace F9 := Aside0.mk (Kd.F_far (Kd.F_far F9.out (p := ⟨G, i * 2, none⟩) hfar (.slice A5 (addS x.1 s1 zc).length c5)) (p := ⟨G, i * 2 + 1, none⟩) hfar (.slice A6 (addS x.2 s2 zc).length c6))
      replace F10 := Aside0.mk (Kd.F_far (Kd.F_far F10.out (p := ⟨G, i * 2, none⟩) hfar (.slice A5 (addS x.1 s1 zc).length c5)) (p := ⟨G, i * 2 + 1, none⟩) hfar (.slice A6 (addS x.2 s2 zc).length c6))
      have hNG : W.heap.size ≠ G := by have := GB.out; have := M0L.out; omega
      replace K1 := Aside0.mk ((Below.heap_setCell (w5.setCell ⟨G, i * 2, none⟩ (.slice A5 (addS x.1 s1 zc).length c5)) ⟨G, i * 2 + 1, none⟩ (.slice A6 (addS x.2 s2 zc).length c6) W.heap.size hNG).trans ((Below.heap_setCell w5 ⟨G, i * 2, none⟩ (.slice A5 (addS x.1 s1 zc).length c5) W.heap.size hNG).trans K1.out))
      have hWG : W.heap.size ≤ G := by have := GB.out; have := M0L.out; omega
      have hM5 := Nat.le_trans HMC.out (Nat.le_trans hs5_ hs6_)
      replace HMC := Aside0.mk (show M0 ≤ ((w5.setCell ⟨G, i * 2, none⟩ (.slice A5 (addS x.1 s1 zc).length c5)).setCell ⟨G, i * 2 + 1, none⟩ (.slice A6 (addS x.2 s2 zc).length c6)).heap.size from by simpa [World.setCell] using hM5)
      replace HW := Aside0.mk ((HW.out.setCell (p := ⟨G, i * 2, none⟩) hWG (.slice A5 (addS x.1 s1 zc).length c5)).setCell (p := ⟨G, i * 2 + 1, none⟩) hWG (.slice A6 (addS x.2 s2 zc).length c6))
      generalize ((w5.setCell ⟨G, i * 2, none⟩ (.slice A5 (addS x.1 s1 zc).length c5)).setCell ⟨G, i * 2 + 1, none⟩ (.slice A6 (addS x.2 s2 zc).length c6)) = w6 at HN F9 F10 K1 HMC HW ⊢
      clear HP hst hfar hNG hWG hM5
      go_wp2
      go_roundg k1
      case measure => omega
      case rel => exact ⟨i + 1, by first | rfl | rw [hnx], ⟨by have := HI.out; omega⟩, HN, K1, F9, F10, HMC, HW⟩
    · have r1 : decide ((i : Int) < (R.length : Int)) = false := decide_eq_false (by omega)
      have r2 := eq_false hi
      have e : i = R.length := by have := HI.out; omega
      subst e
      clear hi
      obtain ⟨RM, hRM⟩ : ∃ RM, RM = R.map (cl2 s1 s2 k) := ⟨_, rfl⟩
      have HRM := Aside0.mk hRM
      have RLn := Aside0.mk (show R.length = RM.length from by rw [hRM, List.length_map])
      have hmx : mixR R (cl2 s1 s2 k) R.length = RM := by rw [hRM]; simp [mixR]
      rw [hmx] at HN
      have TL := Aside0.mk (show R.findIdx (fun x => decide (leadN x.1 > (k : Int))) ≤ RM.length from by rw [← RLn.out]; exact List.findIdx_le_length)
      have FL := Aside0.mk (show RM.length ≤ 1000000 from by have := RLn.out; have := hRl.out; omega)
      obtain ⟨RN, hRN⟩ : ∃ RN, RN = RM.take (R.findIdx (fun x => decide (leadN x.1 > (k : Int)))) ++ [(s1, s2)] ++ RM.drop (R.findIdx (fun x => decide (leadN x.1 > (k : Int)))) := ⟨_, rfl⟩
      have HRN := Aside0.mk hRN
      have RNp := Aside0.mk (show 0 < RN.length from by rw [hRN, List.length_append, List.length_append, List.length_singleton]; omega)
      clear hRM hmx hRN
      go_upto_region 17 with fail
      refine start_ (n := 11) (S := fun w' => w'.cell? ⟨W.heap.size, 0, none⟩ = some (.slice A9 s1.length c9) ∧ w'.cell? ⟨W.heap.size, 1, none⟩ = some (.slice A10 s2.length c10)) (ds := [10]) #[false, false, false, false, false, false, false, false, false, false, false] (by kernel_rfl) rfl rfl ⟨(by simpa using box0 K1.out), (by simpa using box1 K1.out)⟩ (fun hHeld => ?_)
      have hb := below_drew (Below.refl wr.heap.size wr)
      replace K1 := box_step K1 hb
      replace HN := Aside0.mk (Kd.N_below HN.out hb)
      replace F9 := Aside0.mk (Kd.F_below F9.out hb)
      replace F10 := Aside0.mk (Kd.F_below F10.out hb)
      replace HW := Aside0.mk (HW.out.trans (hb.mono HW.out.size))
      have M0D := Aside0.mk (Nat.le_trans HMC.out hb.size)
      clear hb
      generalize wr.drew = wd at K1 HN F9 F10 HW M0D hHeld ⊢
      have HV := Aside0.mk (Below.refl wd.heap.size wd)
      have MD := Aside0.mk (Kd.N_lt HN.out)
      refine pure_ (i := 0) (N := some 87) (v := ?_) (a' := ?_) #[true, false, false, false, false, false, false, false, false, false, false] rfl rfl (by kernel_rfl) (fun _ _ _ h => h) (Or.inl ⟨by rfl, ?_⟩) ?_ ?_
      rotate_left
      · intro w'
        go_simp
        with_reducible rfl
      rotate_left
      · simp only [Act.put, List.setIfInBounds_toArray, List.set_cons_zero, List.set_cons_succ, i64_w, i32_w]
        rfl
      refine pure_ (i := 1) (N := some 88) (v := ?_) (a' := ?_) #[true, true, false, false, false, false, false, false, false, false, false] rfl rfl (by kernel_rfl) (fun _ _ _ h => h) (Or.inl ⟨by rfl, ?_⟩) ?_ ?_
      rotate_left
      · intro w'
        go_simp
        with_reducible rfl
      rotate_left
      · simp only [Act.put, List.setIfInBounds_toArray, List.set_cons_zero, List.set_cons_succ, i64_w, i32_w]
        rfl
      refine pure_ (i := 2) (N := some 89) (v := ?_) (a' := ?_) #[true, true, true, false, false, false, false, false, false, false, false] rfl rfl (by kernel_rfl) (fun _ _ _ h => h) (Or.inl ⟨by rfl, ?_⟩) ?_ ?_
      rotate_left
      · intro w'
        go_simp
        with_reducible rfl
      rotate_left
      · simp only [Act.put, List.setIfInBounds_toArray, List.set_cons_zero, List.set_cons_succ, i64_w, i32_w]
        rfl
      refine pure_ (i := 3) (N := some 90) (v := ?_) (a' := ?_) #[true, true, true, true, false, false, false, false, false, false, false] rfl rfl (by kernel_rfl) (fun _ _ _ h => h) (Or.inl ⟨by rfl, ?_⟩) ?_ ?_
      rotate_left
      · intro w'
        go_simp
        with_reducible rfl
      rotate_left
      · simp only [Act.put, List.setIfInBounds_toArray, List.set_cons_zero, List.set_cons_succ, i64_w, i32_w]
        rfl
      refine take_ (i := 5) (N := some 92) (v := ?_) (a' := ?_) #[true, true, true, true, false, true, false, false, false, false, false] rfl rfl (by kernel_rfl) (fun _ _ _ h => h) (Or.inl ⟨by rfl, ?_⟩) hHeld ?_ ?_
      rotate_left
      · rintro w' ⟨s0, s1⟩
        go_simp
        with_reducible rfl
      rotate_left
      · simp only [Act.put, List.setIfInBounds_toArray, List.set_cons_zero, List.set_cons_succ, i64_w, i32_w]
        rfl
      refine join_ (σ := Value) 4 #[true, true, true, true, true, true, true, false, false, false, false] (fun s => [(91, .int .i64 ((R.findIdx (fun x => decide (leadN x.1 > (k : Int))) : Nat) : Int)), (93, s)]) (fun s w' => Below wd.heap.size wd w' ∧ ∃ AV cV, s = .slice AV 1 cV ∧ Kd.N brK 35 w' wd.heap.size (fun j => (W.heap.size < j ∧ j < M0) ∨ wd.heap.size ≤ j) (.slice AV 1 cV) [(s1, s2)]) ?_ ?_
      rotate_left
      · intro hCont
        refine two_ (i := 4) (j := 6) (Ni := some 91) (Nj := some 93) #[true, true, true, true, true, true, false, false, false, false, false] #[true, true, true, true, false, true, true, false, false, false, false] rfl rfl rfl rfl (by kernel_rfl) (by decide) (by decide) (fun K hK => ?_) (fun K hK => ?_)
        · skip
          refine goes_ Try.func31 (by kernel_rfl) rfl #[.pointer (some ⟨B, 0, none⟩), .int .i64 (k : Int)] (by rfl) rfl rfl (by simp only [List.map_toArray, List.map_cons, List.map_nil]; rfl) ?_
          with_reducible refine (place_calls _ B a1.length a2.length A c R ⟨H.out.step HW.out⟩ a1.length a2.length HR hg.out.2.1 hRl (k : Int)).mono ?_
          rintro e w10 ⟨rfl, hb⟩
          refine ⟨_, rfl, ?_⟩
          replace K1 := box_step K1 hb
          replace HN := Aside0.mk (Kd.N_below HN.out hb)
          replace F9 := Aside0.mk (Kd.F_below F9.out hb)
          replace F10 := Aside0.mk (Kd.F_below F10.out hb)
          replace HW := Aside0.mk (HW.out.trans (hb.mono HW.out.size))
          replace HV := Aside0.mk (HV.out.trans (hb.mono HV.out.size))
          refine hK.out _ _ ⟨(box0 K1.out), (box1 K1.out)⟩ (fun hHeld => ?_)
          clear hK K
          refine norm_ (a' := ?_) ?_ ?_
          rotate_left
          · show Act.put _ (some 91) _ = _
            simp only [Act.put, List.setIfInBounds_toArray, List.set_cons_zero, List.set_cons_succ, i64_w, i32_w]
            rfl
          refine one_ (i := 6) (N := some 93) #[true, true, true, true, true, true, true, false, false, false, false] rfl rfl (by kernel_rfl) (by decide) (fun K hK => ?_)
          have HV10 := Aside0.mk HV.out.size
          refine Kd.N_lit_step brK (w0 := w10) w10.heap.size 35 (by rfl) (N' := 93) rfl (xs := [(s1, s2)]) (inner := [.slice A9 s1.length c9, .slice A10 s2.length c10]) (ok := fun j => (W.heap.size < j ∧ j < M0) ∨ wd.heap.size ≤ j) (okp := fun j => W.heap.size < j ∧ j < M0) ?hr1 (reps_br (show Kd.FK brK _ _ (s1, s2) [.slice A9 s1.length c9, .slice A10 s2.length c10] from br_mk (x := (s1, s2)) L9.out F9.out L10.out F10.out)) (fun _ h => Or.inl h) (Or.inr HV.out.size) (Below.refl _ _) (Nat.le_refl _) (by simp) ?_
          case hr1 => first | (go_simp; done) | (go_simp; rfl)
          intro v_ w11 hN_ hb _ _
          obtain ⟨AV, cV, rfl⟩ := Kd.N_slice hN_
          replace K1 := box_step K1 hb
          replace HN := Aside0.mk (Kd.N_below HN.out hb)
          replace F9 := Aside0.mk (Kd.F_below F9.out hb)
          replace F10 := Aside0.mk (Kd.F_below F10.out hb)
          replace HW := Aside0.mk (HW.out.trans (hb.mono HW.out.size))
          replace HV := Aside0.mk (HV.out.trans (hb.mono HV.out.size))
          refine hK.out _ _ ⟨(box0 K1.out), (box1 K1.out)⟩ (fun hHeld => ?_)
          clear hK K
          refine norm_ (a' := ?_) ?_ ?_
          rotate_left
          · show Act.put _ (some 93) _ = _
            simp only [Act.put, List.setIfInBounds_toArray, List.set_cons_zero, List.set_cons_succ, i64_w, i32_w]
            rfl
          exact norm_ (by first | (simp only [putAll, Act.put, List.setIfInBounds_toArray, List.set_cons_zero, List.set_cons_succ]; done) | (simp only [putAll, Act.put, List.setIfInBounds_toArray, List.set_cons_zero, List.set_cons_succ]; rfl)) (hCont (.slice AV 1 cV) _ ⟨HV.out, AV, cV, rfl, Kd.N_lower hN_ HV10.out⟩)
        · skip
          refine Kd.N_lit_step brK (w0 := wd) wd.heap.size 35 (by rfl) (N' := 93) rfl (xs := [(s1, s2)]) (inner := [.slice A9 s1.length c9, .slice A10 s2.length c10]) (ok := fun j => (W.heap.size < j ∧ j < M0) ∨ wd.heap.size ≤ j) (okp := fun j => W.heap.size < j ∧ j < M0) ?hr2 (reps_br (show Kd.FK brK _ _ (s1, s2) [.slice A9 s1.length c9, .slice A10 s2.length c10] from br_mk (x := (s1, s2)) L9.out F9.out L10.out F10.out)) (fun _ h => Or.inl h) (Or.inr HV.out.size) (Below.refl _ _) (Nat.le_refl _) (by simp) ?_
          case hr2 => first | (go_simp; done) | (go_simp; rfl)
          intro v_ w10 hN_ hb _ _
          obtain ⟨AV, cV, rfl⟩ := Kd.N_slice hN_
          have HNV := Aside0.mk hN_
          replace K1 := box_step K1 hb
          replace HN := Aside0.mk (Kd.N_below HN.out hb)
          replace F9 := Aside0.mk (Kd.F_below F9.out hb)
          replace F10 := Aside0.mk (Kd.F_below F10.out hb)
          replace HW := Aside0.mk (HW.out.trans (hb.mono HW.out.size))
          replace HV := Aside0.mk (HV.out.trans (hb.mono HV.out.size))
          refine hK.out _ _ ⟨(box0 K1.out), (box1 K1.out)⟩ (fun hHeld => ?_)
          clear hK K
          refine norm_ (a' := ?_) ?_ ?_
          rotate_left
          · show Act.put _ (some 93) _ = _
            simp only [Act.put, List.setIfInBounds_toArray, List.set_cons_zero, List.set_cons_succ, i64_w, i32_w]
            rfl
          refine one_ (i := 4) (N := some 91) #[true, true, true, true, true, true, true, false, false, false, false] rfl rfl (by kernel_rfl) (by decide) (fun K hK => ?_)
          refine goes_ Try.func31 (by kernel_rfl) rfl #[.pointer (some ⟨B, 0, none⟩), .int .i64 (k : Int)] (by rfl) rfl rfl (by simp only [List.map_toArray, List.map_cons, List.map_nil]; rfl) ?_
          with_reducible refine (place_calls _ B a1.length a2.length A c R ⟨H.out.step HW.out⟩ a1.length a2.length HR hg.out.2.1 hRl (k : Int)).mono ?_
          rintro e w11 ⟨rfl, hb⟩
          refine ⟨_, rfl, ?_⟩
          replace HNV := Aside0.mk (Kd.N_below HNV.out hb)
          replace K1 := box_step K1 hb
          replace HN := Aside0.mk (Kd.N_below HN.out hb)
          replace F9 := Aside0.mk (Kd.F_below F9.out hb)
          replace F10 := Aside0.mk (Kd.F_below F10.out hb)
          replace HW := Aside0.mk (HW.out.trans (hb.mono HW.out.size))
          replace HV := Aside0.mk (HV.out.trans (hb.mono HV.out.size))
          refine hK.out _ _ ⟨(box0 K1.out), (box1 K1.out)⟩ (fun hHeld => ?_)
          clear hK K
          refine norm_ (a' := ?_) ?_ ?_
          rotate_left
          · show Act.put _ (some 91) _ = _
            simp only [Act.put, List.setIfInBounds_toArray, List.set_cons_zero, List.set_cons_succ, i64_w, i32_w]
            rfl
          exact norm_ (by first | (simp only [putAll, Act.put, List.setIfInBounds_toArray, List.set_cons_zero, List.set_cons_succ]; done) | (simp only [putAll, Act.put, List.setIfInBounds_toArray, List.set_cons_zero, List.set_cons_succ]; rfl)) (hCont (.slice AV 1 cV) _ ⟨HV.out, AV, cV, rfl, HNV.out⟩)
      rintro s_ w12 hJ
      (try dsimp only at hJ)
      obtain ⟨hb, AV, cV, rfl, hNV⟩ := hJ
      have HNV := Aside0.mk hNV
      clear hNV HV
      replace K1 := box_step K1 hb
      replace HN := Aside0.mk (Kd.N_below HN.out hb)
      replace F9 := Aside0.mk (Kd.F_below F9.out hb)
      replace F10 := Aside0.mk (Kd.F_below F10.out hb)
      replace HW := Aside0.mk (HW.out.trans (hb.mono HW.out.size))
      have HV := Aside0.mk hb
      have hHeld := And.intro (box0 K1.out) (box1 K1.out)
      refine norm_ (a' := ?_) ?_ ?_
      rotate_left
      · simp only [putAll, Act.put, List.setIfInBounds_toArray, List.set_cons_zero, List.set_cons_succ]
        rfl
      refine one_ (i := 7) (N := some 94) #[true, true, true, true, true, true, true, true, false, false, false] rfl rfl (by kernel_rfl) (by decide) (fun K hK => ?_)
      refine goes_ Try.func30 (by kernel_rfl) rfl #[.slice AR R.length cR, .int .i64 ((R.findIdx (fun x => decide (leadN x.1 > (k : Int))) : Nat) : Int), .slice AV 1 cV] (by rfl) rfl rfl (by simp only [List.map_toArray, List.map_cons, List.map_nil]; rfl) ?_
      with_reducible refine (slIns_at (base := M0) (ok := okR P W.heap.size) RLn.out HN.out (R.findIdx (fun x => decide (leadN x.1 > (k : Int)))) TL.out HNV.out (okv_ok HN.out BL.out M0L.out M0D.out MD.out) (fun j hj => okR_r (by have := WorkIs.heap_lt' K1.out; omega)) (Nat.le_trans M0D.out HV.out.size) FL.out).mono ?_
      rintro e w13 ⟨v_, rfl, hNI, hb⟩
      refine ⟨_, rfl, ?_⟩
      rw [← HRN.out] at hNI
      obtain ⟨AI, cI, rfl⟩ := Kd.N_slice hNI
      have HI := Aside0.mk hNI
      replace K1 := Aside0.mk ((hb.block W.heap.size M0L.out).trans K1.out)
      replace HW := Aside0.mk (HW.out.trans (hb.mono (Nat.le_of_lt M0L.out)))
      clear hNI
      refine hK.out _ _ ⟨(box0 K1.out), (box1 K1.out)⟩ (fun hHeld => ?_)
      clear hK K
      refine norm_ (a' := ?_) ?_ ?_
      rotate_left
      · show Act.put _ (some 94) _ = _
        simp only [Act.put, List.setIfInBounds_toArray, List.set_cons_zero, List.set_cons_succ, i64_w, i32_w]
        rfl
      refine pure_ (i := 8) (N := some 95) (v := ?_) (a' := ?_) #[true, true, true, true, true, true, true, true, true, false, false] rfl rfl (by kernel_rfl) (fun _ _ _ h => h) (Or.inl ⟨by rfl, ?_⟩) ?_ ?_
      rotate_left
      · intro w'
        go_simp
        with_reducible rfl
      rotate_left
      · simp only [Act.put, List.setIfInBounds_toArray, List.set_cons_zero, List.set_cons_succ, i64_w, i32_w]
        rfl
      refine pure_ (i := 9) (N := some 96) (v := ?_) (a' := ?_) #[true, true, true, true, true, true, true, true, true, true, false] rfl rfl (by kernel_rfl) (fun _ _ _ h => h) (Or.inl ⟨by rfl, ?_⟩) ?_ ?_
      rotate_left
      · intro w'
        go_simp
        with_reducible rfl
      rotate_left
      · simp only [Act.put, List.setIfInBounds_toArray, List.set_cons_zero, List.set_cons_succ, i64_w, i32_w]
        rfl
      have y0 := (H.out.step HW.out).c2
      have z0 := boxF (H.out.step HW.out).blk 2
      refine last_ (i := 10) (N := none) #[true, true, true, true, true, true, true, true, true, true, true] rfl rfl (by kernel_rfl) (by decide) (fun K hK => ?_)
      refine skip_ (w1 := ?_) (by rfl) rfl ?_ ?_
      rotate_left
      · go_simp
        rfl
      refine hK.out _ _ ?_
      clear hK K
      refine done_ (by kernel_rfl) ?_
      have hbas : BasisIs (w13.setCell ⟨B, 2, none⟩ (.slice AI RN.length cI)) B a1.length a2.length AI cI RN := by
        have hblk := (H.out.step HW.out).blk
        refine ⟨?_, (Kd.N_reads' HI.out).2.1, ?_, fun _ => ?_⟩
        · simp only [World.setCell, Array.getElem?_modify, if_true, hblk, Option.map_some]
          simp
        · refine Kd.F_far (Kd.F_mono (Kd.N_F HI.out) (fun j hj => ?_)) (p := ⟨B, 2, none⟩) (fun j hj => hj) _
          rcases hj with h | h
          · exact hPB.out j h.1
          · show j ≠ B
            have := BL.out; omega
        · obtain ⟨G2, cap2, ev, -, -, -⟩ := Kd.N_form HI.out RNp.out
          injection ev with ev
          exact ⟨G2, ev⟩
      have hfoot : Kd.F brK (w13.setCell ⟨B, 2, none⟩ (.slice AI RN.length cI)) (okR P W.heap.size) AI RN.length RN := by
        refine Kd.F_far (Kd.N_F HI.out) (p := ⟨B, 2, none⟩) (fun j hj => ?_) _
        rcases hj with h | h
        · exact hPB.out j h.1
        · show j ≠ B
          have := BL.out; omega
      clear y0 z0
      go_wp2
      go_ret2
      rw [← HRM.out, ← HRN.out]
      exact ⟨AI, cI, w13, rfl, HW.out, rfl, hbas, hfoot⟩
end Go.Proofs.Ytpfaaljmefgpbaa.Hand
end
