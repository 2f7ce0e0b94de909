/- QTB, part 22: HInv. -/
import Derived.Test.YtpfaaljmefgpbaaQTB14
import Derived.Test.YtpfaaljmefgpbaaQTB16

section
set_option linter.unusedVariables false
set_option linter.unusedSimpArgs false
namespace Go.Proofs.Ytpfaaljmefgpbaa.Hand
open Go.RowKit Go.Proofs.YtpfaaljmefgpbaaW.PrintWords Go.Proofs.YtpfaaljmefgpbaaW.PrintLast Go.Proofs.YtpfaaljmefgpbaaW.PrintMore
def upTo (f g : Nat → List Int) (n i : Nat) : List (List Int) := (List.range n).map fun j => if j < i then f j else g j
section
variable (f g : Nat → List Int) (n i : Nat)
theorem upTo_length : (upTo f g n i).length = n := by simp [upTo]
theorem upTo_zero : upTo f g n 0 = (List.range n).map g := by simp [upTo]
theorem upTo_all : upTo f g n n = (List.range n).map f := by
  unfold upTo
  exact List.map_congr_left fun j hj => if_pos (List.mem_range.1 hj)
theorem upTo_at (h : i < n) : (upTo f g n i)[i]'(by rw [upTo_length]; exact h) = g i := by simp [upTo]
theorem upTo_set (h : i < n) : (upTo f g n i).set i (f i) = upTo f g n (i + 1) := by
  refine List.ext_getElem (by simp [upTo]) fun j h1 h2 => ?_
  by_cases e : j = i
  · subst e
    rw [List.getElem_set_self]
    simp [upTo]
  · rw [List.getElem_set_ne (fun q => e q.symm)]
    simp only [upTo, List.getElem_map, List.getElem_range]
    by_cases h : j < i
    · rw [if_pos h, if_pos (by omega)]
    · rw [if_neg h, if_neg (by omega)]
end
def unitRow (n i : Nat) : List Int := (List.replicate n 0).set i 1
theorem unit_f (n i : Nat) (hn : n ≤ 70000) (hi : i < n) : PK.vector_Unit.f (n : Int) (i : Int) = some (unitRow n i, 0) := by
  unfold PK.vector_Unit.f unitRow
  rw [if_neg (by omega), if_neg (by omega), if_neg (by omega), if_neg (by omega), if_pos (by omega), if_pos (by omega), Option.bind_some, Int.toNat_natCast, List.length_replicate, if_pos (by omega), if_pos (by omega), Int.toNat_natCast]
theorem unitRow_length (n i : Nat) : (unitRow n i).length = n := by simp [unitRow]
theorem unitRow_B (n i : Nat) : areB (unitRow n i) := fun x hx => by
  rcases List.mem_or_eq_of_mem_set hx with h | h
  · rw [List.eq_of_mem_replicate h]; exact ⟨by decide, by decide⟩
  · rw [h]; exact ⟨by decide, by decide⟩
def wideOf (l0 : List (List Int)) : List (List Int) := (List.range l0.length).map fun i => l0.getD i [] ++ unitRow l0.length i
theorem wideOf_length (l0 : List (List Int)) : (wideOf l0).length = l0.length := by simp [wideOf]
theorem wideOf_fits {l0 : List (List Int)} (h : Fits l0.length l0) : Fits (l0.length + l0.length) (wideOf l0) := fun r hr => by
  obtain ⟨i, hi, rfl⟩ := List.mem_map.1 hr
  have hi := List.mem_range.1 hi
  have h1 := getD_fits h hi
  exact ⟨by rw [List.length_append, unitRow_length, h1.1], fun x hx => (List.mem_append.1 hx).elim (h1.2 x) (unitRow_B _ _ x)⟩
theorem getD_self (l : List (List Int)) : (List.range l.length).map (fun j => l.getD j []) = l := by
  refine List.ext_getElem (by simp) fun j h1 h2 => ?_
  simp [h2]
theorem map_range_getD (l : List (List Int)) (F : List Int → List Int) : (List.range l.length).map (fun j => F (l.getD j [])) = l.map F := by
  refine List.ext_getElem (by simp) fun j h1 h2 => ?_
  simp at h1
  simp [h1]
def matrix_Inverse.f (l0 : List (List Int)) : Option (List (List Int) × Int) :=
  if l0.length < 1000000000 then
    if (l0.any fun x => (x.length : Int) != ((rdR l0 0).length : Int)) = true then some ([], 21)
    else if l0.length = (rdR l0 0).length then
      (if l0.length ≤ 70000 ∧ ∀ x ∈ l0, areB x then
        (if (redTo (wideOf l0) l0.length).2 < l0.length then some ([], 24) else some ((redTo (wideOf l0) l0.length).1.map (·.drop l0.length), 0))
      else none)
    else some ([], 21)
  else none
set_option maxHeartbeats 4000000 in
set_option maxRecDepth 100000 in
theorem inverse_err (A0 : Option Addr) (c0 : Nat) (l0 : List (List Int)) (w : World) (a b e : Int) (HS : Aside0 (Calls Try.prog 32 #[.slice A0 l0.length c0] w fun x w' => x = .returned (.tuple #[.int .i64 a, .int .i64 b, .int .i64 e]) ∧ Below w.heap.size w w')) (he : e ≠ 0 ∨ a ≠ b) :
    Calls Try.prog 16 #[.slice A0 l0.length c0] w fun e w' => ∃ v0_ : Value, e = .returned (.tuple #[v0_, .int .i64 21]) ∧ Kd.S rowK 22 w' w.heap.size (fun _ => True) v0_ [] ∧ Below w.heap.size w w' := by
  by_cases h : e = 0
  · subst h
    have q1 : (a != b) = true := by simpa using he
    clear he
    go_enter Try.func16, Try.ntmps16
    go_wp2_with (go_at_call 32; refine HS.out.mono ?_; rintro e w1 ⟨rfl, hb1⟩)
    go_ret2
    exact ⟨_, rfl, Kd.S_nil _ _ _ _ _, hb1⟩
  · have q1 : (e != 0) = true := by simpa using h
    clear he h
    go_enter Try.func16, Try.ntmps16
    go_wp2_with (go_at_call 32; refine HS.out.mono ?_; rintro e w1 ⟨rfl, hb1⟩)
    go_ret2
    exact ⟨_, rfl, Kd.S_nil _ _ _ _ _, hb1⟩
set_option maxHeartbeats 8000000 in
set_option maxRecDepth 100000 in
theorem inverse_main (A0 : Option Addr) (c0 : Nat) (l0 : List (List Int)) (w : World) (hr0 : Kd.C rowK w A0 l0.length l0) (hc0 : l0.length ≤ c0) (hn : l0.length ≤ 70000) (hp : 0 < l0.length) (hf : Fits l0.length l0)
    (HS : Aside0 (Calls Try.prog 32 #[.slice A0 l0.length c0] w fun x w' => x = .returned (.tuple #[.int .i64 (l0.length : Int), .int .i64 (l0.length : Int), .int .i64 0]) ∧ Below w.heap.size w w')) (r1 : List (List Int)) (r2 : Int)
    (HQ : Aside0 ((if (redTo (wideOf l0) l0.length).2 < l0.length then (([] : List (List Int)), (24 : Int)) else ((redTo (wideOf l0) l0.length).1.map (·.drop l0.length), 0)) = (r1, r2))) :
    Calls Try.prog 16 #[.slice A0 l0.length c0] w fun e w' => ∃ v0_ : Value, e = .returned (.tuple #[v0_, .int .i64 r2]) ∧ Kd.S rowK 22 w' w.heap.size (fun _ => True) v0_ r1 ∧ Below w.heap.size w w' := by
  have HR := Aside0.mk hr0
  have HN := Aside0.mk hn
  have HP := Aside0.mk hp
  have HF := Aside0.mk hf
  have q0 : (0 ≤ (l0.length : Int)) = True := eq_true (by omega)
  obtain ⟨info, hinfo, hi2⟩ := Option.map_eq_some_iff.1 infoT5
  have hsz : info.size = 1 := by simp only [Prod.mk.injEq] at hi2; exact hi2.2.1
  clear hr0 hc0 hn hp hf hi2
  go_enter Try.func16, Try.ntmps16
  go_wp2_with (first
    | (go_at_call 32; refine HS.out.mono ?_; rintro e w1 ⟨rfl, hb1⟩; have HB1 := Aside0.mk hb1; clear hb1)
    | ((with_reducible refine gate_dst (N := 26) rfl ?_); refine Kd.N_make rowK (w0 := w) w.heap.size 22 rfl (N' := 26) rfl 24 _ _ rfl (l0.length : Int) rfl rfl Try.underlying24 (.slice none 0 0) 24 infoRows rfl (by decide) (by decide) [] (ok := fun _ => True) (okp := fun _ => True) (show Kd.FK rowK _ _ [] [.slice none ([] : List Int).length 0] from Kd.FK_slice_mk (Nat.le_refl _) (Kd.F_nil _ _ _)) (fun _ h => h) trivial (by omega) (by have := HN.out; rw [Int.toNat_natCast]; omega) HB1.out HB1.out.size ?_; intro v2 w2 hN hb2 _ _; rw [Int.toNat_natCast] at hN; obtain ⟨G, cap, rfl, hG1, hG2, -⟩ := Kd.N_form hN (by rw [List.length_replicate]; exact HP.out); have HW := Aside0.mk (WorkIs.make (v := .slice none 0 0) hN hb2); rw [List.length_replicate] at HW; clear hN hb2 hG1 hG2))
  have HW0 := Aside0.mk (show WorkIs w (w2.alloc (.cells #[.slice (some ⟨G, 0, none⟩) l0.length cap, .int .i64 0] 70)) w2.heap.size G cap (upTo (fun j => l0.getD j [] ++ unitRow l0.length j) (fun _ => []) l0.length 0) 0 from by
    rw [upTo_zero, List.map_const', List.length_range]; exact HW.out)
  clear HW
  generalize w2.heap.size = B at HW0 ⊢
  generalize (w2.alloc _) = w3 at HW0 ⊢
  clear HB1
  go_loopg [31] l0.length (fun kq v31 w' => ∃ i : Nat, v31 = .int .i64 (i : Int) ∧ Aside0 (kq + i = l0.length) ∧ Aside0 (WorkIs w w' B G cap (upTo (fun j => l0.getD j [] ++ unitRow l0.length j) (fun _ => []) l0.length i) 0))
  case atStart => exact ⟨0, rfl, ⟨rfl⟩, HW0⟩
  case round =>
    clear HW0
    obtain ⟨i, rfl, HI, HW⟩ := hrel
    by_cases hi : i < l0.length
    · have q1 : decide ((i : Int) < (l0.length : Int)) = true := decide_eq_true (by omega)
      have p0 : (0 : Int) ≤ (i : Int) := by omega
      have p1 : (i : Int) < (l0.length : Int) := by omega
      obtain ⟨ad, Ai, ci, e1, hx1, hl1, hi1⟩ := at_R HR.out (i : Int) p0 p1
      cases e1
      have er : rdR l0 (i : Int) = l0.getD i [] := by unfold rdR; rw [Int.toNat_natCast]
      rw [er] at hx1 hl1 hi1
      rw [Int.toNat_natCast] at hx1
      have HXi := Aside0.mk (getD_fits HF.out hi)
      have Hx1 := Aside0.mk ((HW.out.below.cell (World.block_lt_of_cell? _ _ hx1)).trans hx1)
      have Hl1 := Aside0.mk hl1
      have HRi := Aside0.mk hi1
      have hi9 : (i : Int) ≤ 1000000000 := by have := HN.out; omega
      have hi8 := p0
      have q4 := eq_true p0
      have q5 := eq_true p1
      have q6 := eq_true hi
      have Hi := Aside0.mk hi
      have HU := Aside0.mk (unit_f l0.length i HN.out hi)
      obtain ⟨x, hx⟩ : ∃ x, x = l0.getD i [] := ⟨_, rfl⟩
      obtain ⟨u, hu⟩ : ∃ u, u = unitRow l0.length i := ⟨_, rfl⟩
      rw [← hx] at Hx1 Hl1 HRi HXi
      rw [← hu] at HU
      have hul : u.length = l0.length := by rw [hu, unitRow_length]
      have HXU := Aside0.mk (show x ++ u = (fun j => l0.getD j [] ++ unitRow l0.length j) i from by rw [hx, hu])
      have Hul := Aside0.mk hul
      clear p0 p1 hi er hi1 hl1 hx1 hx hu hul
      go_upto_region 9 with (go_at_call 37; refine (PK.vector_Unit.calls _ _ u 0 _ HU.out).mono ?_; rintro e w4 ⟨v, rfl, hR4, hb4⟩; obtain ⟨Au, cu, rfl, hlu, _⟩ := Kd.R_reads hR4; have HRu := Aside0.mk hR4; have Hlu := Aside0.mk hlu; have HW4 := Aside0.mk (HW.out.step hb4); have Hx4 := Aside0.mk ((hb4.cell (World.block_lt_of_cell? _ _ Hx1.out)).trans Hx1.out); clear hR4 hlu hb4)
      have HCF := Aside0.mk (show slices_Concat_byte_byte.f [x, u] = some (x ++ u) from by
        unfold slices_Concat_byte_byte.f
        have h1 := HXi.out.1
        have h2 := Hul.out
        have h3 := HN.out
        rw [if_pos ⟨by simp, by simp; omega⟩]
        simp)
      refine start_ (n := 14) (S := fun w' => w'.cell? ⟨B, 0, none⟩ = some (.slice (some ⟨G, 0, none⟩) l0.length cap) ∧ w'.cell? (ad.add i) = some (.slice Ai x.length ci)) (ds := [13]) #[false, false, false, false, false, false, false, false, false, false, false, false, false, false] (by kernel_rfl) rfl rfl ⟨(by have := HW4.out.cell0; rw [upTo_length (fun j => l0.getD j [] ++ unitRow l0.length j) (fun _ => []) l0.length i] at this; simpa using this), (by simpa using Hx4.out)⟩ (fun hHeld => ?_)
      have HW5 := Aside0.mk (HW4.out.step (below_drew (Below.refl _ _)))
      have HRu5 := Aside0.mk (Kd.R_below HRu.out (below_drew (Below.refl _ _)))
      clear HW4 HRu HW Hx1 Hx4
      generalize w4.drew = w5 at HW5 HRu5 hHeld ⊢
      have HCx := Aside0.mk (Kd.C_below HRi.out HW5.out.below)
      refine pure_ (i := 0) (N := some 40) (v := ?_) (a' := ?_) #[true, false, false, false, false, false, false, false, false, false, false, false, false, false] rfl rfl (by kernel_rfl) (fun _ _ _ h => h) (Or.inl ⟨by rfl, ?_⟩) ?_ ?_
      rotate_left
      · intro w'
        go_simp
        with_reducible rfl
      rotate_left
      · simp only [Act.put, List.setIfInBounds_toArray, List.set_cons_zero, List.set_cons_succ, i64_w, i32_w]
        rfl
      refine pure_ (i := 1) (N := some 41) (v := ?_) (a' := ?_) #[true, true, false, false, false, false, false, false, false, false, false, false, false, false] rfl rfl (by kernel_rfl) (fun _ _ _ h => h) (Or.inl ⟨by rfl, ?_⟩) ?_ ?_
      rotate_left
      · intro w'
        go_simp
        with_reducible rfl
      rotate_left
      · simp only [Act.put, List.setIfInBounds_toArray, List.set_cons_zero, List.set_cons_succ, i64_w, i32_w]
        rfl
      refine pure_ (i := 2) (N := some 42) (v := ?_) (a' := ?_) #[true, true, true, false, false, false, false, false, false, false, false, false, false, false] rfl rfl (by kernel_rfl) (fun _ _ _ h => h) (Or.inl ⟨by rfl, ?_⟩) ?_ ?_
      rotate_left
      · intro w'
        go_simp
        with_reducible rfl
      rotate_left
      · simp only [Act.put, List.setIfInBounds_toArray, List.set_cons_zero, List.set_cons_succ, i64_w, i32_w]
        rfl
      refine pure_ (i := 4) (N := some 44) (v := ?_) (a' := ?_) #[true, true, true, false, true, false, false, false, false, false, false, false, false, false] rfl rfl (by kernel_rfl) (fun _ _ _ h => h) (Or.inl ⟨by rfl, ?_⟩) ?_ ?_
      rotate_left
      · intro w'
        go_simp
        with_reducible rfl
      rotate_left
      · simp only [Act.put, List.setIfInBounds_toArray, List.set_cons_zero, List.set_cons_succ, i64_w, i32_w]
        rfl
      refine pure_ (i := 5) (N := some 45) (v := ?_) (a' := ?_) #[true, true, true, false, true, true, false, false, false, false, false, false, false, false] rfl rfl (by kernel_rfl) (fun _ _ _ h => h) (Or.inl ⟨by rfl, ?_⟩) ?_ ?_
      rotate_left
      · intro w'
        go_simp
        with_reducible rfl
      rotate_left
      · simp only [Act.put, List.setIfInBounds_toArray, List.set_cons_zero, List.set_cons_succ, i64_w, i32_w]
        rfl
      refine pure_ (i := 6) (N := some 46) (v := ?_) (a' := ?_) #[true, true, true, false, true, true, true, false, false, false, false, false, false, false] rfl rfl (by kernel_rfl) (fun _ _ _ h => h) (Or.inl ⟨by rfl, ?_⟩) ?_ ?_
      rotate_left
      · intro w'
        go_simp
        with_reducible rfl
      rotate_left
      · simp only [Act.put, List.setIfInBounds_toArray, List.set_cons_zero, List.set_cons_succ, i64_w, i32_w]
        rfl
      refine pure_ (i := 7) (N := some 47) (v := ?_) (a' := ?_) #[true, true, true, false, true, true, true, true, false, false, false, false, false, false] rfl rfl (by kernel_rfl) (fun _ _ _ h => h) (Or.inl ⟨by rfl, ?_⟩) ?_ ?_
      rotate_left
      · intro w'
        go_simp
        with_reducible rfl
      rotate_left
      · simp only [Act.put, List.setIfInBounds_toArray, List.set_cons_zero, List.set_cons_succ, i64_w, i32_w]
        rfl
      refine pure_ (i := 9) (N := some 49) (v := ?_) (a' := ?_) #[true, true, true, false, true, true, true, true, false, true, false, false, false, false] rfl rfl (by kernel_rfl) (fun _ _ _ h => h) (Or.inl ⟨by rfl, ?_⟩) ?_ ?_
      rotate_left
      · intro w'
        go_simp
        with_reducible rfl
      rotate_left
      · simp only [Act.put, List.setIfInBounds_toArray, List.set_cons_zero, List.set_cons_succ, i64_w, i32_w]
        rfl
      refine take_ (i := 3) (N := some 43) (v := ?_) (a' := ?_) #[true, true, true, true, true, true, true, true, false, true, false, false, false, false] rfl rfl (by kernel_rfl) (fun _ _ _ h => h) (Or.inl ⟨by rfl, ?_⟩) hHeld ?_ ?_
      rotate_left
      · rintro w' ⟨s0, s1⟩
        go_simp
        with_reducible rfl
      rotate_left
      · simp only [Act.put, List.setIfInBounds_toArray, List.set_cons_zero, List.set_cons_succ, i64_w, i32_w]
        rfl
      refine take_ (i := 8) (N := some 48) (v := ?_) (a' := ?_) #[true, true, true, true, true, true, true, true, true, true, false, false, false, false] rfl rfl (by kernel_rfl) (fun _ _ _ h => h) (Or.inl ⟨by rfl, ?_⟩) hHeld ?_ ?_
      rotate_left
      · rintro w' ⟨s0, s1⟩
        go_simp
        with_reducible rfl
      rotate_left
      · simp only [Act.put, List.setIfInBounds_toArray, List.set_cons_zero, List.set_cons_succ, i64_w, i32_w]
        rfl
      refine one_ (i := 10) (N := some 50) #[true, true, true, true, true, true, true, true, true, true, true, false, false, false] rfl rfl (by kernel_rfl) (by decide) (fun K hK => ?_)
      refine Kd.N_lit_step rowK (w0 := w5) w5.heap.size 22 (by rfl) (N' := 50) rfl (xs := [x, u]) (inner := [.slice Ai x.length ci, .slice Au u.length cu]) (ok := fun _ => True) (okp := fun _ => True) ?hr (Reps.one (show Kd.FK rowK _ _ x [.slice Ai x.length ci] from Kd.FK_slice_mk Hl1.out (Kd.F_mono (Kd.C_F (Kd.heap_int _) HCx.out) (fun _ _ => trivial))) (Reps.one (show Kd.FK rowK _ _ u [.slice Au u.length cu] from Kd.FK_slice_mk Hlu.out (Kd.F_mono (Kd.R_F HRu5.out) (fun _ _ => trivial))) (Reps.none _ _))) (fun _ h => h) trivial (Below.refl _ _) (Nat.le_refl _) (by simp) ?_
      case hr => first | (go_simp; done) | (go_simp; rfl)
      intro v6 w6 hN hb6 _ _
      obtain ⟨As, cs, rfl, hlc, hC⟩ := Kd.N_reads hN
      have HC6 := Aside0.mk hC
      have Hlc := Aside0.mk hlc
      have HW6 := Aside0.mk (HW5.out.step hb6)
      clear hN hlc hC HW5 HRu5 HCx
      refine hK.out _ _ ⟨(by have := HW6.out.cell0; rw [upTo_length (fun j => l0.getD j [] ++ unitRow l0.length j) (fun _ => []) l0.length i] at this; simpa using this), ((hb6.cell (World.block_lt_of_cell? _ _ hHeld.2)).trans hHeld.2)⟩ (fun hHeld => ?_)
      clear hK K
      refine norm_ (a' := ?_) ?_ ?_
      rotate_left
      · show Act.put _ (some 50) _ = _
        simp only [Act.put, List.setIfInBounds_toArray, List.set_cons_zero, List.set_cons_succ, i64_w, i32_w]
        rfl
      refine one_ (i := 11) (N := some 51) #[true, true, true, true, true, true, true, true, true, true, true, true, false, false] rfl rfl (by kernel_rfl) (by decide) (fun K hK => ?_)
      refine goes_ Try.func38 (by kernel_rfl) rfl #[.slice As [x, u].length cs] (by rfl) rfl rfl (by simp only [List.map_toArray, List.map_cons, List.map_nil]; rfl) ?_
      with_reducible refine (slices_Concat_byte_byte.calls As cs [x, u] (x ++ u) _ HC6.out Hlc.out HCF.out).mono ?_
      rintro e w7 ⟨v0, rfl, hR, hb7⟩
      refine ⟨_, rfl, ?_⟩
      obtain ⟨An, cn, rfl, hN⟩ := RowAt.fresh HW6.out hR
      have HW7 := Aside0.mk (HW6.out.step hb7)
      have HN7 := Aside0.mk hN
      obtain ⟨Az, cz, hz0, hz1, _⟩ := HW7.out.row i (by rw [upTo_length (fun j => l0.getD j [] ++ unitRow l0.length j) (fun _ => []) l0.length i]; exact Hi.out)
      clear hR hN HW6 HC6 Hlc
      refine hK.out _ _ ⟨(by have := HW7.out.cell0; rw [upTo_length (fun j => l0.getD j [] ++ unitRow l0.length j) (fun _ => []) l0.length i] at this; simpa using this), ((hb7.cell (World.block_lt_of_cell? _ _ hHeld.2)).trans hHeld.2)⟩ (fun hHeld => ?_)
      clear hK K
      refine norm_ (a' := ?_) ?_ ?_
      rotate_left
      · show Act.put _ (some 51) _ = _
        simp only [Act.put, List.setIfInBounds_toArray, List.set_cons_zero, List.set_cons_succ, i64_w, i32_w]
        rfl
      refine pure_ (i := 12) (N := some 52) (v := ?_) (a' := ?_) #[true, true, true, true, true, true, true, true, true, true, true, true, true, false] rfl rfl (by kernel_rfl) (fun _ _ _ h => h) (Or.inl ⟨by rfl, ?_⟩) ?_ ?_
      rotate_left
      · intro w'
        go_simp
        with_reducible rfl
      rotate_left
      · simp only [Act.put, List.setIfInBounds_toArray, List.set_cons_zero, List.set_cons_succ, i64_w, i32_w]
        rfl
      refine last_ (i := 13) (N := none) #[true, true, true, true, true, true, true, true, true, true, true, true, true, true] rfl rfl (by kernel_rfl) (by decide) (fun K hK => ?_)
      refine skip_ (w1 := ?_) (by rfl) rfl ?_ ?_
      rotate_left
      · go_simp
        rfl
      refine hK.out _ _ ?_
      clear hK K
      refine done_ (by kernel_rfl) ?_
      have HW8 := Aside0.mk (HW7.out.put i (by rw [upTo_length]; exact Hi.out) HN7.out)
      have eS : (upTo (fun j => l0.getD j [] ++ unitRow l0.length j) (fun _ => []) l0.length i).set i (x ++ u) = upTo (fun j => l0.getD j [] ++ unitRow l0.length j) (fun _ => []) l0.length (i + 1) := by
        rw [HXU.out]; exact upTo_set _ _ _ _ Hi.out
      rw [eS, List.length_append] at HW8
      clear HW7 hHeld hz0 hz1
      generalize w7.setCell ⟨G, i, none⟩ (.slice An (x.length + u.length) cn) = w8 at HW8 ⊢
      cases gk with
      | zero => exact absurd HI.out (by have := Hi.out; omega)
      | succ k1 =>
        go_wp2
        go_roundg k1
        case measure => omega
        case rel => exact ⟨i + 1, by go_num, ⟨by have := HI.out; omega⟩, HW8⟩
    · have q1 : decide ((i : Int) < (l0.length : Int)) = false := decide_eq_false (by omega)
      have e : i = l0.length := by have := HI.out; omega
      subst e
      rw [upTo_all] at HW
      replace HW := Aside0.mk (show WorkIs w wr B G cap (wideOf l0) 0 from HW.out)
      have HRD := Aside0.mk (reduced_calls w wr B G cap (wideOf l0) (l0.length + l0.length) HW.out (wideOf_fits HF.out) (by unfold vN; have := HN.out; omega) (by rw [wideOf_length]; have := HN.out; omega) l0.length (by omega))
      have HM := Aside0.mk (redTo_le (wideOf l0) l0.length)
      have HFI := Aside0.mk (redTo_fits (wideOf_fits HF.out) l0.length)
      rw [wideOf_length] at HFI
      clear hi HI HW
      obtain ⟨S, hS⟩ : ∃ S, redTo (wideOf l0) l0.length = S := ⟨_, rfl⟩
      rw [hS] at HRD HM HFI
      obtain ⟨M, d⟩ := S
      dsimp only at HRD HM HFI
      rw [hS] at HQ
      clear hS
      dsimp only at HQ
      by_cases hd : d < l0.length
      · rw [if_pos hd] at HQ
        obtain ⟨rfl, rfl⟩ : ([] : List (List Int)) = r1 ∧ (24 : Int) = r2 := Prod.mk.injEq _ _ _ _ ▸ HQ.out
        have q2 : decide ((d : Int) < (l0.length : Int)) = true := decide_eq_true (by omega)
        have q3 : decide (d < l0.length) = true := decide_eq_true hd
        have q4 : (d < l0.length) = True := eq_true hd
        clear hd
        go_wp2_with (go_at_call 34; refine HRD.out.mono ?_; rintro e w4 ⟨rfl, hW⟩; have HW := Aside0.mk hW; clear hW)
        go_ret2
        exact ⟨_, rfl, Kd.S_nil _ _ _ _ _, HW.out.below⟩
      · rw [if_neg hd] at HQ
        obtain ⟨rfl, rfl⟩ : M.map (·.drop l0.length) = r1 ∧ (0 : Int) = r2 := Prod.mk.injEq _ _ _ _ ▸ HQ.out
        have q2 : decide ((d : Int) < (l0.length : Int)) = false := decide_eq_false (by omega)
        have q3 : decide (d < l0.length) = false := decide_eq_false hd
        have q4 : (d < l0.length) = False := eq_false hd
        clear hd
        go_wp2_with (go_at_call 34; refine HRD.out.mono ?_; rintro e w4 ⟨rfl, hW⟩; have HW := Aside0.mk hW; have hc0 := hW.cell0; rw [HFI.out.2] at hc0; clear hW)
        have HW0 := Aside0.mk (show WorkIs w w4 B G cap (upTo (fun j => (M.getD j []).drop l0.length) (fun j => M.getD j []) l0.length 0) d from by
          have e := HFI.out.2
          rw [upTo_zero, ← e, getD_self]; exact HW.out)
        clear HW hc0
        go_loopg [64] l0.length (fun kq v64 w' => ∃ i : Nat, v64 = .int .i64 (i : Int) ∧ Aside0 (kq + i = l0.length) ∧ Aside0 (WorkIs w w' B G cap (upTo (fun j => (M.getD j []).drop l0.length) (fun j => M.getD j []) l0.length i) d))
        case atStart => exact ⟨0, rfl, ⟨rfl⟩, HW0⟩
        case round =>
          clear HW0
          obtain ⟨i, rfl, HI, HW⟩ := hrel
          by_cases hi : i < l0.length
          · have q1 : decide ((i : Int) < (l0.length : Int)) = true := decide_eq_true (by omega)
            have p0 : (0 : Int) ≤ (i : Int) := by omega
            have p1 : (i : Int) < (l0.length : Int) := by omega
            obtain ⟨Ai, ci, hx0, hx1, hRi⟩ := HW.out.row i (by rw [upTo_length]; exact hi)
            rw [upTo_at _ _ _ _ hi] at hx0 hRi
            have hxl := (getD_fits HFI.out.1 (show i < M.length by rw [HFI.out.2]; exact hi)).1
            have hi9 : (i : Int) ≤ 1000000000 := by have := HN.out; omega
            have hi8 := p0
            have q4 := eq_true p0
            have q5 := eq_true p1
            have q6 := eq_true hi
            have Hi := Aside0.mk hi
            obtain ⟨x, hx⟩ : ∃ x, x = M.getD i [] := ⟨_, rfl⟩
            rw [← hx] at hx0 hRi hxl
            have Hx := Aside0.mk hx
            have Hx0 := Aside0.mk hx0
            have HRi := Aside0.mk hRi
            have Hxl := Aside0.mk hxl
            have hcut := cut_from (P := Try.prog) 22 5 .i64 Try.underlying22 hinfo 1 hsz Ai x.length ci (l0.length : Int) (by omega) (by omega)
            rw [Int.toNat_natCast] at hcut
            obtain ⟨Aq, hAq⟩ : ∃ Aq, (if ci = l0.length then Ai else Option.map (fun x => x.add (l0.length * 1)) Ai) = Aq := ⟨_, rfl⟩
            rw [hAq] at hcut
            have HAq := Aside0.mk hAq
            clear hAq
            clear p0 p1 hi hx0 hx1 hRi hxl hx
            go_wp2
            refine start_ (n := 16) (S := fun w' => w'.cell? ⟨B, 0, none⟩ = some (.slice (some ⟨G, 0, none⟩) l0.length cap) ∧ w'.cell? ⟨G, i, none⟩ = some (.slice Ai x.length ci)) (ds := [15]) #[false, false, false, false, false, false, false, false, false, false, false, false, false, false, false, false] (by kernel_rfl) rfl rfl ⟨(by have := HW.out.cell0; rw [upTo_length (fun j => (M.getD j []).drop l0.length) (fun j => M.getD j []) l0.length i] at this; simpa using this), (by simpa using Hx0.out)⟩ (fun hHeld => ?_)
            have hW5 := HW.out.step (below_drew (Below.refl _ _))
            have hR5 := HRi.out.step (below_drew (Below.refl wr.heap.size wr))
            have HR5 := Aside0.mk hR5
            clear HW HRi Hx0 hR5
            generalize wr.drew = w5 at hW5 HR5 hHeld ⊢
            refine pure_ (i := 0) (N := some 67) (v := ?_) (a' := ?_) #[true, false, false, false, false, false, false, false, false, false, false, false, false, false, false, false] rfl rfl (by kernel_rfl) (fun _ _ _ h => h) (Or.inl ⟨by rfl, ?_⟩) ?_ ?_
            rotate_left
            · intro w'
              go_simp
              with_reducible rfl
            rotate_left
            · simp only [Act.put, List.setIfInBounds_toArray, List.set_cons_zero, List.set_cons_succ, i64_w, i32_w]
              rfl
            refine pure_ (i := 1) (N := some 68) (v := ?_) (a' := ?_) #[true, true, false, false, false, false, false, false, false, false, false, false, false, false, false, false] rfl rfl (by kernel_rfl) (fun _ _ _ h => h) (Or.inl ⟨by rfl, ?_⟩) ?_ ?_
            rotate_left
            · intro w'
              go_simp
              with_reducible rfl
            rotate_left
            · simp only [Act.put, List.setIfInBounds_toArray, List.set_cons_zero, List.set_cons_succ, i64_w, i32_w]
              rfl
            refine pure_ (i := 2) (N := some 69) (v := ?_) (a' := ?_) #[true, true, true, false, false, false, false, false, false, false, false, false, false, false, false, false] rfl rfl (by kernel_rfl) (fun _ _ _ h => h) (Or.inl ⟨by rfl, ?_⟩) ?_ ?_
            rotate_left
            · intro w'
              go_simp
              with_reducible rfl
            rotate_left
            · simp only [Act.put, List.setIfInBounds_toArray, List.set_cons_zero, List.set_cons_succ, i64_w, i32_w]
              rfl
            refine pure_ (i := 4) (N := some 71) (v := ?_) (a' := ?_) #[true, true, true, false, true, false, false, false, false, false, false, false, false, false, false, false] rfl rfl (by kernel_rfl) (fun _ _ _ h => h) (Or.inl ⟨by rfl, ?_⟩) ?_ ?_
            rotate_left
            · intro w'
              go_simp
              with_reducible rfl
            rotate_left
            · simp only [Act.put, List.setIfInBounds_toArray, List.set_cons_zero, List.set_cons_succ, i64_w, i32_w]
              rfl
            refine pure_ (i := 5) (N := some 72) (v := ?_) (a' := ?_) #[true, true, true, false, true, true, false, false, false, false, false, false, false, false, false, false] rfl rfl (by kernel_rfl) (fun _ _ _ h => h) (Or.inl ⟨by rfl, ?_⟩) ?_ ?_
            rotate_left
            · intro w'
              go_simp
              with_reducible rfl
            rotate_left
            · simp only [Act.put, List.setIfInBounds_toArray, List.set_cons_zero, List.set_cons_succ, i64_w, i32_w]
              rfl
            refine pure_ (i := 6) (N := some 73) (v := ?_) (a' := ?_) #[true, true, true, false, true, true, true, false, false, false, false, false, false, false, false, false] rfl rfl (by kernel_rfl) (fun _ _ _ h => h) (Or.inl ⟨by rfl, ?_⟩) ?_ ?_
            rotate_left
            · intro w'
              go_simp
              with_reducible rfl
            rotate_left
            · simp only [Act.put, List.setIfInBounds_toArray, List.set_cons_zero, List.set_cons_succ, i64_w, i32_w]
              rfl
            refine pure_ (i := 7) (N := some 74) (v := ?_) (a' := ?_) #[true, true, true, false, true, true, true, true, false, false, false, false, false, false, false, false] rfl rfl (by kernel_rfl) (fun _ _ _ h => h) (Or.inl ⟨by rfl, ?_⟩) ?_ ?_
            rotate_left
            · intro w'
              go_simp
              with_reducible rfl
            rotate_left
            · simp only [Act.put, List.setIfInBounds_toArray, List.set_cons_zero, List.set_cons_succ, i64_w, i32_w]
              rfl
            refine pure_ (i := 9) (N := some 76) (v := ?_) (a' := ?_) #[true, true, true, false, true, true, true, true, false, true, false, false, false, false, false, false] rfl rfl (by kernel_rfl) (fun _ _ _ h => h) (Or.inl ⟨by rfl, ?_⟩) ?_ ?_
            rotate_left
            · intro w'
              go_simp
              with_reducible rfl
            rotate_left
            · simp only [Act.put, List.setIfInBounds_toArray, List.set_cons_zero, List.set_cons_succ, i64_w, i32_w]
              rfl
            refine pure_ (i := 12) (N := some 79) (v := ?_) (a' := ?_) #[true, true, true, false, true, true, true, true, false, true, false, false, true, false, false, false] rfl rfl (by kernel_rfl) (fun _ _ _ h => h) (Or.inl ⟨by rfl, ?_⟩) ?_ ?_
            rotate_left
            · intro w'
              go_simp
              with_reducible rfl
            rotate_left
            · simp only [Act.put, List.setIfInBounds_toArray, List.set_cons_zero, List.set_cons_succ, i64_w, i32_w]
              rfl
            refine take_ (i := 3) (N := some 70) (v := ?_) (a' := ?_) #[true, true, true, true, true, true, true, true, false, true, false, false, true, false, false, false] rfl rfl (by kernel_rfl) (fun _ _ _ h => h) (Or.inl ⟨by rfl, ?_⟩) hHeld ?_ ?_
            rotate_left
            · rintro w' ⟨s0, s1⟩
              go_simp
              with_reducible rfl
            rotate_left
            · simp only [Act.put, List.setIfInBounds_toArray, List.set_cons_zero, List.set_cons_succ, i64_w, i32_w]
              rfl
            refine take_ (i := 8) (N := some 75) (v := ?_) (a' := ?_) #[true, true, true, true, true, true, true, true, true, true, false, false, true, false, false, false] rfl rfl (by kernel_rfl) (fun _ _ _ h => h) (Or.inl ⟨by rfl, ?_⟩) hHeld ?_ ?_
            rotate_left
            · rintro w' ⟨s0, s1⟩
              go_simp
              with_reducible rfl
            rotate_left
            · simp only [Act.put, List.setIfInBounds_toArray, List.set_cons_zero, List.set_cons_succ, i64_w, i32_w]
              rfl
            refine pure_ (i := 10) (N := some 77) (v := ?_) (a' := ?_) #[true, true, true, true, true, true, true, true, true, true, true, false, true, false, false, false] rfl rfl (by kernel_rfl) (fun _ _ _ h => h) (Or.inl ⟨by rfl, ?_⟩) ?_ ?_
            rotate_left
            · intro w'
              go_simp
              with_reducible rfl
            rotate_left
            · simp only [Act.put, List.setIfInBounds_toArray, List.set_cons_zero, List.set_cons_succ, i64_w, i32_w]
              rfl
            refine take_ (i := 11) (N := some 78) (v := ?_) (a' := ?_) #[true, true, true, true, true, true, true, true, true, true, true, true, true, false, false, false] rfl rfl (by kernel_rfl) (fun _ _ _ h => h) (Or.inl ⟨by rfl, ?_⟩) hHeld ?_ ?_
            rotate_left
            · rintro w' ⟨s0, s1⟩
              go_simp
              with_reducible rfl
            rotate_left
            · simp only [Act.put, List.setIfInBounds_toArray, List.set_cons_zero, List.set_cons_succ, i64_w, i32_w]
              rfl
            refine pure_ (i := 13) (N := some 80) (v := ?_) (a' := ?_) #[true, true, true, true, true, true, true, true, true, true, true, true, true, true, false, false] rfl rfl (by kernel_rfl) (fun _ _ _ h => h) (Or.inl ⟨by rfl, ?_⟩) ?_ ?_
            rotate_left
            · intro w'
              go_simp
              with_reducible rfl
            rotate_left
            · simp only [Act.put, List.setIfInBounds_toArray, List.set_cons_zero, List.set_cons_succ, i64_w, i32_w]
              rfl
            refine pure_ (i := 14) (N := some 81) (v := ?_) (a' := ?_) #[true, true, true, true, true, true, true, true, true, true, true, true, true, true, true, false] rfl rfl (by kernel_rfl) (fun _ _ _ h => h) (Or.inl ⟨by rfl, ?_⟩) ?_ ?_
            rotate_left
            · intro w'
              go_simp
              with_reducible rfl
            rotate_left
            · simp only [Act.put, List.setIfInBounds_toArray, List.set_cons_zero, List.set_cons_succ, i64_w, i32_w]
              rfl
            have HW5 := Aside0.mk hW5
            obtain ⟨Az, cz, hz0, hz1, _⟩ := hW5.row i (by rw [upTo_length (fun j => (M.getD j []).drop l0.length) (fun j => M.getD j []) l0.length i]; exact Hi.out)
            clear hW5
            refine last_ (i := 15) (N := none) #[true, true, true, true, true, true, true, true, true, true, true, true, true, true, true, true] rfl rfl (by kernel_rfl) (by decide) (fun K hK => ?_)
            refine skip_ (w1 := ?_) (by rfl) rfl ?_ ?_
            rotate_left
            · go_simp
              rfl
            refine hK.out _ _ ?_
            clear hK K
            refine done_ (by kernel_rfl) ?_
            have hcl : x.length ≤ ci := HR5.out.len
            have hF := Kd.F_cut HR5.out.2 (m := l0.length) (c := ci) (by have := Hxl.out; omega) hcl
            rw [show (Kd.int .u8).sz = 1 from rfl, HAq.out] at hF
            have HW6 := Aside0.mk (HW5.out.put i (by rw [upTo_length]; exact Hi.out) (A := Aq) (c := ci - l0.length) (x := x.drop l0.length) ⟨by rw [List.length_drop]; omega, hF⟩)
            have eS : (upTo (fun j => (M.getD j []).drop l0.length) (fun j => M.getD j []) l0.length i).set i (x.drop l0.length) = upTo (fun j => (M.getD j []).drop l0.length) (fun j => M.getD j []) l0.length (i + 1) := by
              rw [Hx.out]; exact upTo_set _ _ _ _ Hi.out
            rw [eS, List.length_drop] at HW6
            clear HW5 HR5 hF hcl hHeld hz0 hz1 hcut
            generalize w5.setCell ⟨G, i, none⟩ _ = w6 at HW6 ⊢
            cases gk with
            | zero => exact absurd HI.out (by have := Hi.out; omega)
            | succ k1 =>
              go_wp2
              go_roundg k1
              case measure => omega
              case rel => exact ⟨i + 1, by go_num, ⟨by have := HI.out; omega⟩, HW6⟩
          · have q1 : decide ((i : Int) < (l0.length : Int)) = false := decide_eq_false (by omega)
            have e : i = l0.length := by have := HI.out; omega
            subst e
            rw [upTo_all] at HW
            have e2 : (List.range l0.length).map (fun j => (M.getD j []).drop l0.length) = M.map (·.drop l0.length) := by
              have := map_range_getD M (·.drop l0.length)
              rw [HFI.out.2] at this
              exact this
            rw [e2] at HW
            clear hi e2
            have hc0 := HW.out.cell0
            rw [List.length_map, HFI.out.2] at hc0
            have HNr := Aside0.mk HW.out.rows
            have hll : (M.map (·.drop l0.length)).length = l0.length := by rw [List.length_map, HFI.out.2]
            have HCP := Aside0.mk (copied_calls (some ⟨G, 0, none⟩) cap (M.map (·.drop l0.length)) wr (Kd.N_reads' HNr.out).2.2 (Kd.N_reads' HNr.out).2.1 (by rw [hll]; have := HN.out; omega) (fun r hr => by
              obtain ⟨s, hs, rfl⟩ := List.mem_map.1 hr
              have h1 := (HFI.out.1 s hs).1
              have h2 := HN.out
              rw [List.length_drop]; omega))
            rw [hll] at HCP
            clear hll
            go_wp2_with (go_at_call 35; refine HCP.out.mono ?_; rintro e w5 ⟨v, rfl, hS, hb5⟩; have HO := Aside0.mk (Kd.S_lower hS HW.out.below.size); have HB5 := Aside0.mk (HW.out.below.trans (hb5.mono HW.out.below.size)); clear hS hb5)
            go_ret2
            exact ⟨_, rfl, HO.out, HB5.out⟩
set_option maxHeartbeats 4000000 in
set_option maxRecDepth 100000 in
theorem inverse_nil (A0 : Option Addr) (c0 : Nat) (w : World) (hr0 : Kd.C rowK w A0 ([] : List (List Int)).length []) (hc0 : ([] : List (List Int)).length ≤ c0) :
    Calls Try.prog 16 #[.slice A0 ([] : List (List Int)).length c0] w fun e w' => ∃ v0_ : Value, e = .returned (.tuple #[v0_, .int .i64 0]) ∧ Kd.S rowK 22 w' w.heap.size (fun _ => True) v0_ [] ∧ Below w.heap.size w w' := by
  have HS := Aside0.mk (matrix_Size.calls A0 c0 [] 0 0 0 w hr0 hc0 (by rfl))
  clear hr0 hc0
  go_enter Try.func16, Try.ntmps16
  go_wp2_with (first
    | (go_at_call 32; refine HS.out.mono ?_; rintro e w1 ⟨rfl, hb1⟩; have HB1 := Aside0.mk hb1; clear hb1)
    | ((with_reducible refine gate_dst (N := 26) rfl ?_); refine Kd.N_make rowK (w0 := w) w.heap.size 22 rfl (N' := 26) rfl 24 _ _ rfl 0 rfl rfl Try.underlying24 (.slice none 0 0) 24 infoRows rfl (by decide) (by decide) [] (ok := fun _ => True) (okp := fun _ => True) (show Kd.FK rowK _ _ [] [.slice none ([] : List Int).length 0] from Kd.FK_slice_mk (Nat.le_refl _) (Kd.F_nil _ _ _)) (fun _ h => h) trivial (by omega) (by decide) HB1.out HB1.out.size ?_; intro v2 w2 hN hb2 _ _; replace hN : Kd.N rowK 22 w2 w.heap.size (fun _ => True) v2 [] := hN; obtain ⟨A, cap, hv⟩ := Kd.N_slice hN; replace hv : v2 = .slice A 0 cap := hv; subst hv; have HN := Aside0.mk hN; have HB2 := Aside0.mk hb2; clear hN hb2))
  have HB3 := Aside0.mk (below_alloc HB2.out (.cells #[.slice A 0 cap, .int .i64 0] 70))
  have HN3 := Aside0.mk (Kd.N_alloc HN.out (.cells #[.slice A 0 cap, .int .i64 0] 70))
  have HC3 := Aside0.mk (show (w2.alloc (.cells #[.slice A 0 cap, .int .i64 0] 70)).heap[w2.heap.size]? = some (.cells #[.slice A 0 cap, .int .i64 0] 70 (0, 0)) from by show (w2.heap.push _)[w2.heap.size]? = some _; simp)
  clear HN HB2 HB1
  generalize w2.heap.size = B at HC3 ⊢
  generalize (w2.alloc _) = w3 at HB3 HN3 HC3 ⊢
  go_loopg [31] 0 (fun kq v31 w' => v31 = .int .i64 0 ∧ w3 = w')
  case atStart => exact ⟨rfl, rfl⟩
  case round =>
    obtain ⟨rfl, rfl⟩ := hrel
    have hc0 := show w3.cell? ⟨B, 0, none⟩ = some (.slice A 0 cap) from by simp [World.cell?, HC3.out]
    go_wp2_with (go_at_call 34; refine (reduced_none B (.slice A 0 cap) 0 _ HC3.out).mono ?_; rintro e w4 ⟨rfl, rfl⟩)
    go_loopg [64] 0 (fun kq v64 w' => v64 = .int .i64 0 ∧ w4 = w')
    case atStart => exact ⟨rfl, rfl⟩
    case round =>
      obtain ⟨rfl, rfl⟩ := hrel
      go_wp2_with (go_at_call 35; refine (copied_calls A cap [] _ (Kd.N_reads' HN3.out).2.2 (Nat.zero_le _) (by decide) (fun r hr => by cases hr)).mono ?_; rintro e w5 ⟨v, rfl, hS, hb5⟩; have HO := Aside0.mk (Kd.S_lower hS HB3.out.size); have HB5 := Aside0.mk (HB3.out.trans (hb5.mono HB3.out.size)); clear hS hb5)
      go_ret2
      exact ⟨_, rfl, HO.out, HB5.out⟩
theorem matrix_Inverse.calls (A0 : Option Addr) (c0 : Nat) (l0 : List (List Int)) (r1 : List (List Int)) (r2 : Int) (w : World) (hr0 : Kd.C (Kd.slice 5 (Kd.int .u8)) w A0 l0.length l0) (hc0 : l0.length ≤ c0) (h : matrix_Inverse.f l0 = some (r1, r2)) :
    Calls Try.prog 16 #[.slice A0 l0.length c0] w fun e w' => ∃ v0_ : Value, e = .returned (.tuple #[v0_, .int .i64 r2]) ∧ Kd.S (Kd.slice 5 (Kd.int .u8)) 22 w' w.heap.size (fun _ => True) v0_ r1 ∧ Below w.heap.size w w' := by
  by_cases hz : l0 = []
  · subst hz
    have e : matrix_Inverse.f [] = some ([], 0) := by rfl
    rw [e] at h
    simp only [Option.some.injEq, Prod.mk.injEq] at h
    obtain ⟨rfl, rfl⟩ := h
    exact inverse_nil A0 c0 w hr0 hc0
  have hz0 : 0 < l0.length := by
    have : l0.length ≠ 0 := fun e => hz (List.length_eq_zero_iff.1 e)
    omega
  unfold matrix_Inverse.f at h
  by_cases hl : l0.length < 1000000000
  · rw [if_pos hl] at h
    by_cases ha : (l0.any fun x => (x.length : Int) != ((rdR l0 0).length : Int)) = true
    · rw [if_pos ha] at h
      simp only [Option.some.injEq, Prod.mk.injEq] at h
      obtain ⟨rfl, rfl⟩ := h
      exact inverse_err A0 c0 l0 w 0 0 21 ⟨matrix_Size.calls A0 c0 l0 0 0 21 w hr0 hc0 (size_err l0 hl ha)⟩ (Or.inl (by decide))
    · rw [if_neg ha] at h
      have ha' := Bool.eq_false_iff.2 ha
      have HS := Aside0.mk (matrix_Size.calls A0 c0 l0 _ _ 0 w hr0 hc0 (size_ok l0 hl ha'))
      by_cases hs : l0.length = (rdR l0 0).length
      · rw [if_pos hs] at h
        by_cases hf : l0.length ≤ 70000 ∧ ∀ x ∈ l0, areB x
        · rw [if_pos hf] at h
          rw [← hs] at HS
          refine inverse_main A0 c0 l0 w hr0 hc0 hf.1 hz0 (fun r hr => ⟨by have := List.any_eq_false.1 ha' r hr; simp at this; omega, hf.2 r hr⟩) HS r1 r2 ⟨?_⟩
          by_cases hd : (redTo (wideOf l0) l0.length).2 < l0.length
          · rw [if_pos hd] at h ⊢
            exact Option.some.inj h
          · rw [if_neg hd] at h ⊢
            exact Option.some.inj h
        · rw [if_neg hf] at h; cases h
      · rw [if_neg hs] at h
        simp only [Option.some.injEq, Prod.mk.injEq] at h
        obtain ⟨rfl, rfl⟩ := h
        exact inverse_err A0 c0 l0 w _ _ 0 HS (Or.inr (by omega))
  · rw [if_neg hl] at h; cases h
end Go.Proofs.Ytpfaaljmefgpbaa.Hand
end
