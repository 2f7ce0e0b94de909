/- QTB, part 20: HBasH HBasI HBasJ. -/
import Derived.Test.YtpfaaljmefgpbaaQTB19
import Derived.BigQuiet

section
set_option linter.unusedVariables false
set_option linter.unusedSimpArgs false
namespace Go.Proofs.Ytpfaaljmefgpbaa.Hand
open Go.RowKit Go.Proofs.YtpfaaljmefgpbaaW.PrintWords Go.Proofs.YtpfaaljmefgpbaaW.PrintLast Go.Proofs.YtpfaaljmefgpbaaW.PrintMore
set_option maxHeartbeats 4000000 in
set_option maxRecDepth 100000 in
theorem new_calls (w : World) (g s : Nat) (hg : 1 ≤ g ∧ g ≤ 6) (hs : 1 ≤ s ∧ s ≤ 6) :
    Calls Try.prog 6 #[.int .i64 (g : Int), .int .i64 (s : Int)] w fun e w' => e = .returned (.tuple #[.pointer (some ⟨w.heap.size, 0, none⟩), .int .i64 0]) ∧ BasisIs w' w.heap.size g s none 0 [] ∧ Below w.heap.size w w' := by
  have q1 : decide ((g : Int) < 1) = false := decide_eq_false (by omega)
  have q2 : decide ((255 : Int) < (g : Int)) = false := decide_eq_false (by omega)
  have q3 : decide ((s : Int) < 1) = false := decide_eq_false (by omega)
  have q4 : decide ((65535 : Int) < (s : Int)) = false := decide_eq_false (by omega)
  have q5 : ((g : Int) < 1) = False := eq_false (by omega)
  have q6 : ((255 : Int) < (g : Int)) = False := eq_false (by omega)
  have q7 : ((s : Int) < 1) = False := eq_false (by omega)
  have q8 : ((65535 : Int) < (s : Int)) = False := eq_false (by omega)
  go_enter Try.func6, Try.ntmps6
  go_wp2
  go_ret2
  refine ⟨rfl, ⟨alloc_at w #[.int .i64 (g : Int), .int .i64 (s : Int), .slice none 0 0] 51 rfl, Nat.le_refl _, Kd.F_nil _ _ _, fun h => absurd h (Nat.not_lt_zero _)⟩, below_alloc (Below.refl _ _) _⟩
set_option maxHeartbeats 4000000 in
set_option maxRecDepth 100000 in
theorem rows_calls (W : World) (B g s : Nat) (A : Option Addr) (c : Nat) (R : List (List Int × List Int)) (H : Aside0 (BasisIs W B g s A c R)) (hg : 0 < g) (n m : Nat) (HR : Aside0 (RowsOk n m R)) (hn : n < 1000) (hm : m < 1000) (hRl : Aside0 (R.length < 1000)) :
    Calls Try.prog 9 #[.pointer (some ⟨B, 0, none⟩)] W fun e w' => ∃ v : Value, e = .returned v ∧ Kd.N brK 35 w' W.heap.size (fun j => W.heap.size ≤ j) v R ∧ Below W.heap.size W w' := by
  have HM := Aside0.mk (rankB_calls W B g s A c R H.out hg)
  go_enter Try.func9, Try.ntmps9
  go_wp2_with (go_at_call 12; with_reducible refine HM.out.mono ?_; rintro e w1 ⟨rfl, rfl⟩)
  go_loopg [7, 3] R.length (fun kq v7 v3 w' => ∃ i : Nat, v7 = .int .i64 (i : Int) ∧ Aside0 (kq + i = R.length) ∧ Aside0 (Kd.N brK 35 w' w1.heap.size (fun j => w1.heap.size ≤ j) v3 (R.take i)) ∧ Aside0 (Below w1.heap.size w1 w'))
  case atStart => exact ⟨0, rfl, ⟨by omega⟩, ⟨by rw [List.take_zero]; exact Kd.N_nil _ _ _ _ _⟩, ⟨Below.refl _ _⟩⟩
  case round =>
    obtain ⟨i, rfl, HI, HN, HW⟩ := hrel
    by_cases hi : i < R.length
    · have p1 : (i : Int) < (R.length : Int) := Int.ofNat_lt.2 hi
      have r1 : decide ((i : Int) < (R.length : Int)) = true := decide_eq_true p1
      have r4 := eq_true (Int.natCast_nonneg i)
      have r5 := eq_true p1
      have r6 := eq_true hi
      have H2 := Aside0.mk (H.out.step HW.out)
      have x2 := H2.out.c2
      obtain ⟨gb, D1, d1, D2, d2, hA, hx1, hx2, k1, k2, f1, f2⟩ := H2.out.row hi
      have HM := HR.out _ (List.getElem_mem hi)
      have Hi := Aside0.mk hi
      have hsucc : R.take i ++ [R[i]] = R.take (i + 1) := by rw [List.take_add_one, List.getElem?_eq_getElem hi]; rfl
      obtain ⟨x, hxe⟩ : ∃ x, x = R[i]'(Hi.out) := ⟨_, rfl⟩
      rw [← hxe] at hx1 hx2 k1 k2 f1 f2 HM hsucc
      obtain ⟨⟨m1, m2⟩, ⟨m3, m4⟩, -⟩ := HM
      have HSU := Aside0.mk hsucc
      have hnx := bas_next i (by have := hRl.out; omega)
      have F1 := Aside0.mk (Kd.F_now f1)
      have F2 := Aside0.mk (Kd.F_now f2)
      have KA1 := Aside0.mk k1
      have KA2 := Aside0.mk k2
      have XL1 := Aside0.mk (show x.1.length < 140737488355328 from by omega)
      have XL2 := Aside0.mk (show x.2.length < 140737488355328 from by omega)
      have LEN := Aside0.mk (show ((R.take i).length + 1) * 48 ≤ 140737488355328 from by have := hRl.out; rw [List.length_take]; omega)
      have OWN := Aside0.mk (Kd.N_lt HN.out)
      subst hA
      clear p1 hi hxe m1 m2 m3 m4 f1 f2 k1 k2 hsucc
      cases gk with
      | zero => exact absurd HI.out (by have := Hi.out; omega)
      | succ kk1 =>
      go_wp2_with (first
        | (go_at_call 25; with_reducible refine (own_calls D1 d1 x.1 D2 d2 x.2 _ F1 KA1 F2 KA2 XL1 XL2).mono ?_; rintro e w2 ⟨A5, c5, A6, c6, rfl, hl5, hl6, hf5, hf6, hb⟩; have L5 := Aside0.mk hl5; have L6 := Aside0.mk hl6; have F5 := Aside0.mk hf5; have F6 := Aside0.mk hf6; have HB2 := Aside0.mk hb; replace HN := Aside0.mk (Kd.N_below HN.out hb); clear hl5 hl6 hf5 hf6 hb hx1 hx2 x2)
        | ((with_reducible refine gate_dst (N := 19) rfl ?_); (try (refine gate_guard (by rfl) ?_; dsimp only)); refine Kd.N_lit brK (w0 := w2) w2.heap.size 35 ?hg (N' := 19) ?hd (xs := [x]) (inner := [.slice A5 x.1.length c5, .slice A6 x.2.length c6]) (ok := fun j => wr.heap.size ≤ j) (okp := fun j => wr.heap.size ≤ j) ?hr (reps_br (show Kd.FK brK _ _ x [.slice A5 x.1.length c5, .slice A6 x.2.length c6] from br_mk L5.out F5.out L6.out F6.out)) (fun _ h => h) HB2.out.size (Below.refl _ _) (Nat.le_refl _) (by simp) ?_; (case hd => rfl); (case hg => rfl); (case hr => first | (go_simp; done) | (go_simp; rfl)); intro v_ w3 ho_ hb _ _; obtain ⟨AL, cL, rfl⟩ := Kd.N_slice ho_; have HFL := Aside0.mk (Kd.N_F ho_); replace HN := Aside0.mk (Kd.N_below HN.out hb); replace HB2 := Aside0.mk (HB2.out.trans (hb.mono HB2.out.size)); clear ho_ hb)
        | ((with_reducible refine gate_builtin (b := .append) (xs := #[.tmp 10, .tmp 19]) rfl ?_); at_builtin; refine Kd.N_append_rows brK (w0 := w1) w1.heap.size rfl (.tmp 10) (.tmp 19) 26 35 (.agg #[.slice none 0 0, .slice none 0 0]) 48 rfl Try.underlying26 infoBR rfl (show 0 < 2 by decide) (by decide) u3 (R.take i) [x] AL 1 cL (fun j => w1.heap.size ≤ j) (fun j => wr.heap.size ≤ j) rfl rfl HN.out HFL.out (fun j hj => ⟨Nat.le_trans HW.out.size hj, fun e => by have := OWN.out j e.symm; omega⟩) (fun j hj => Nat.le_trans (HW.out.trans (HB2.out.mono HW.out.size)).size hj) (HW.out.trans (HB2.out.mono HW.out.size)) (HW.out.trans (HB2.out.mono HW.out.size)).size LEN.out ?_; intro v4 w4 hN4 hb4 _ _; rw [HSU.out] at hN4; have HN4 := Aside0.mk hN4; have HW4 := Aside0.mk hb4; clear hN4 hb4))
      go_roundg kk1
      case measure => omega
      case rel => exact ⟨i + 1, by first | rfl | rw [hnx], ⟨by have := HI.out; omega⟩, HN4, HW4⟩
    · have r1 : decide ((i : Int) < (R.length : Int)) = false := decide_eq_false (by omega)
      have r2 := eq_false hi
      have e : i = R.length := by have := HI.out; omega
      subst e
      rw [List.take_length] at HN
      clear hi
      go_wp2
      go_ret
      exact ⟨_, rfl, HN.out, HW.out⟩
end Go.Proofs.Ytpfaaljmefgpbaa.Hand
end

section
set_option linter.unusedVariables false
set_option linter.unusedSimpArgs false
namespace Go.Proofs.Ytpfaaljmefgpbaa.Hand
open Go.RowKit Go.Proofs.YtpfaaljmefgpbaaW.PrintWords Go.Proofs.YtpfaaljmefgpbaaW.PrintLast Go.Proofs.YtpfaaljmefgpbaaW.PrintMore
set_option maxHeartbeats 4000000 in
set_option maxRecDepth 100000 in
theorem solveErr_calls (W : World) (B g s : Nat) (A : Option Addr) (c : Nat) (R : List (List Int × List Int)) (H : Aside0 (BasisIs W B g s A c R)) (hg : 0 < g) (hR : R.length < g) :
    Calls Try.prog 15 #[.pointer (some ⟨B, 0, none⟩)] W fun e w' => e = .returned (.tuple #[.slice none 0 0, .int .i64 24]) ∧ Below W.heap.size W w' := by
  have HM := Aside0.mk (madeB_calls W B g s A c R H.out hg)
  have q1 : decide ((R.length : Int) < (g : Int)) = true := decide_eq_true (by omega)
  have q2 := eq_true hR
  go_enter Try.func15, Try.ntmps15
  go_upto_region 3 with (go_at_call 23; with_reducible refine HM.out.mono ?_; rintro e w1 ⟨rfl, rfl⟩)
  have x0 := H.out.c0
  have x2 := H.out.c2
  go_quiet (fail)
  have hb := pw_below_drewN (Below.refl w1.heap.size w1) nq
  clear x0 x2
  generalize w1.drewN nq = w2 at hb ⊢
  have HB := Aside0.mk hb
  clear hb
  go_wp2
  go_ret2
  exact ⟨rfl, HB.out⟩
set_option maxHeartbeats 4000000 in
set_option maxRecDepth 100000 in
theorem solve_calls (W : World) (B g s : Nat) (A : Option Addr) (c : Nat) (R : List (List Int × List Int)) (H : Aside0 (BasisIs W B g s A c R)) (hg : 0 < g) (hR : ¬ R.length < g) (n m : Nat) (HR : Aside0 (RowsOk n m R)) (hn : n < 1000) (hm : m < 1000) (hRl : Aside0 (R.length < 1000)) :
    Calls Try.prog 15 #[.pointer (some ⟨B, 0, none⟩)] W fun e w' => ∃ v : Value, e = .returned (.tuple #[v, .int .i64 0]) ∧ Kd.N rowK 22 w' W.heap.size (fun j => W.heap.size ≤ j) v (R.map (·.2)) ∧ Below W.heap.size W w' := by
  have HM := Aside0.mk (madeB_calls W B g s A c R H.out hg)
  have q1 : decide ((R.length : Int) < (g : Int)) = false := decide_eq_false (by omega)
  have q2 := eq_false hR
  go_enter Try.func15, Try.ntmps15
  go_upto_region 3 with (go_at_call 23; with_reducible refine HM.out.mono ?_; rintro e w1 ⟨rfl, rfl⟩)
  have x0 := H.out.c0
  have x2 := H.out.c2
  go_quiet (fail)
  have hb := pw_below_drewN (Below.refl w1.heap.size w1) nq
  clear x0 x2
  generalize w1.drewN nq = w2 at hb ⊢
  have HB := Aside0.mk hb
  have x2 := (H.out.step HB.out).c2
  clear hb
  go_wp2
  go_loopg [27, 4] R.length (fun kq v27 v4 w' => ∃ i : Nat, v27 = .int .i64 (i : Int) ∧ Aside0 (kq + i = R.length) ∧ Aside0 (Kd.N rowK 22 w' w1.heap.size (fun j => w1.heap.size ≤ j) v4 ((R.take i).map (·.2))) ∧ Aside0 (Below w1.heap.size w1 w'))
  case atStart => exact ⟨0, rfl, ⟨by omega⟩, ⟨by rw [List.take_zero]; exact Kd.N_nil _ _ _ _ _⟩, HB⟩
  case round =>
    clear x2 HB
    obtain ⟨i, rfl, HI, HN, HW⟩ := hrel
    by_cases hi : i < R.length
    · have p1 : (i : Int) < (R.length : Int) := Int.ofNat_lt.2 hi
      have r1 : decide ((i : Int) < (R.length : Int)) = true := decide_eq_true p1
      have r4 := eq_true (Int.natCast_nonneg i)
      have r5 := eq_true p1
      have r6 := eq_true hi
      have H2 := Aside0.mk (H.out.step HW.out)
      obtain ⟨gb, D1, d1, D2, d2, hA, hx1, hx2, k1, k2, f1, f2⟩ := H2.out.row hi
      have HM2 := HR.out _ (List.getElem_mem hi)
      have Hi := Aside0.mk hi
      have hsucc : (R.take i).map (·.2) ++ [(R[i]).2] = (R.take (i + 1)).map (·.2) := by rw [List.take_add_one, List.getElem?_eq_getElem hi, List.map_append]; rfl
      obtain ⟨x, hxe⟩ : ∃ x, x = R[i]'(Hi.out) := ⟨_, rfl⟩
      rw [← hxe] at hx1 hx2 k1 k2 f1 f2 HM2 hsucc
      obtain ⟨-, ⟨m3, m4⟩, -⟩ := HM2
      have HSU := Aside0.mk hsucc
      have hnx := bas_next i (by have := hRl.out; omega)
      have hb := below_alloc (Below.refl wr.heap.size wr) (.cells #[.slice D1 x.1.length d1, .slice D2 x.2.length d2] 35)
      have F2 := Aside0.mk (Kd.C_below (Kd.F_now f2) hb)
      have KA2 := Aside0.mk k2
      have CF := Aside0.mk (show bytes_Clone.f x.2 = some x.2 from by unfold bytes_Clone.f; rw [if_pos (by omega)])
      have LEN := Aside0.mk (show (((R.take i).map (·.2)).length + 1) * 24 ≤ 140737488355328 from by have := hRl.out; rw [List.length_map, List.length_take]; omega)
      have OWN := Aside0.mk (Kd.N_lt HN.out)
      have HN1 := Aside0.mk (Kd.N_below HN.out hb)
      have HB2 := Aside0.mk hb
      subst hA
      clear p1 hi hxe m3 m4 f1 f2 k1 k2 hsucc hb HN H2
      cases gk with
      | zero => exact absurd HI.out (by have := Hi.out; omega)
      | succ kk1 =>
      go_wp2_with (first
        | (go_at_call 36; with_reducible refine (bytes_Clone.calls D2 d2 x.2 x.2 _ F2.out KA2.out CF.out).mono ?_; rintro e w4 ⟨v_, rfl, hR_, hb⟩; obtain ⟨A5, c5, rfl, hl, hf⟩ := new_F hR_; have L5 := Aside0.mk hl; have F5 := Aside0.mk (Kd.F_mono hf (ok' := fun j => wr.heap.size ≤ j) (fun j hj => Nat.le_trans HB2.out.size hj)); replace HN1 := Aside0.mk (Kd.N_below HN1.out hb); replace HB2 := Aside0.mk (HB2.out.trans (hb.mono HB2.out.size)); clear hR_ hb hl hf hx1 hx2)
        | ((with_reducible refine gate_dst (N := 35) rfl ?_); (try (refine gate_guard (by rfl) ?_; dsimp only)); refine Kd.N_lit rowK (w0 := w4) w4.heap.size 22 ?hg (N' := 35) ?hd (xs := [x.2]) (inner := [.slice A5 x.2.length c5]) (ok := fun j => wr.heap.size ≤ j) (okp := fun j => wr.heap.size ≤ j) ?hr (Reps.one (show Kd.FK rowK _ _ x.2 [.slice A5 x.2.length c5] from Kd.FK_slice_mk L5.out F5.out) (Reps.none _ _)) (fun _ h => h) HB2.out.size (Below.refl _ _) (Nat.le_refl _) (by simp) ?_; (case hd => rfl); (case hg => rfl); (case hr => first | (go_simp; done) | (go_simp; rfl)); intro v_ w5 ho_ hb _ _; obtain ⟨AL, cL, rfl⟩ := Kd.N_slice ho_; have HFL := Aside0.mk (Kd.N_F ho_); replace HN1 := Aside0.mk (Kd.N_below HN1.out hb); replace HB2 := Aside0.mk (HB2.out.trans (hb.mono HB2.out.size)); clear ho_ hb)
        | ((with_reducible refine gate_builtin (b := .append) (xs := #[.tmp 31, .tmp 35]) rfl ?_); at_builtin; refine Kd.N_append_rows rowK (w0 := w1) w1.heap.size rfl (.tmp 31) (.tmp 35) 24 22 (.slice none 0 0) 24 rfl Try.underlying24 infoRows rfl (show 0 < 1 by decide) (by decide) u4 ((R.take i).map (·.2)) [x.2] AL 1 cL (fun j => w1.heap.size ≤ j) (fun j => wr.heap.size ≤ j) rfl rfl HN1.out HFL.out (fun j hj => ⟨Nat.le_trans HW.out.size hj, fun e => by have := OWN.out j e.symm; omega⟩) (fun j hj => Nat.le_trans (HW.out.trans (HB2.out.mono HW.out.size)).size hj) (HW.out.trans (HB2.out.mono HW.out.size)) (HW.out.trans (HB2.out.mono HW.out.size)).size (by exact LEN.out) ?_; intro v6 w6 hN4 hb4 _ _; rw [HSU.out] at hN4; have HN4 := Aside0.mk hN4; have HW4 := Aside0.mk hb4; clear hN4 hb4))
      go_roundg kk1
      case measure => omega
      case rel => exact ⟨i + 1, by first | rfl | rw [hnx], ⟨by have := HI.out; omega⟩, HN4, HW4⟩
    · have r1 : decide ((i : Int) < (R.length : Int)) = false := decide_eq_false (by omega)
      have r2 := eq_false hi
      have e : i = R.length := by have := HI.out; omega
      subst e
      rw [List.take_length] at HN
      clear hi
      go_wp2
      go_ret2
      exact ⟨_, rfl, HN.out, HW.out⟩
end Go.Proofs.Ytpfaaljmefgpbaa.Hand
end

section
set_option linter.unusedVariables false
set_option linter.unusedSimpArgs false
namespace Go.Proofs.Ytpfaaljmefgpbaa.Hand
open Go.RowKit Go.Proofs.YtpfaaljmefgpbaaW.PrintWords Go.Proofs.YtpfaaljmefgpbaaW.PrintLast Go.Proofs.YtpfaaljmefgpbaaW.PrintMore
theorem fld0 (A A' : Option Addr) (n c n' c' : Nat) (W : World) : (Instr.field 35 (.agg #[.slice A n c, .slice A' n' c']) 0).run Try.prog W = .ok (.slice A n c) W := by kernel_rfl
attribute [local go_sem] fld0
set_option maxHeartbeats 8000000 in
set_option maxRecDepth 100000 in
theorem containsB_calls (W : World) (B m : Nat) (A : Option Addr) (c : Nat) (R : List (List Int × List Int)) (AL : Option Addr) (cL : Nat) (l : List Int) (H : Aside0 (BasisIs W B l.length m A c R)) (HR : Aside0 (RowsOk l.length m R)) (hg : 0 < l.length) (hn : l.length < 1000) (hm : m < 1000) (hRl : Aside0 (R.length < 1000)) (HL : Aside0 (Kd.C (Kd.int .u8) W AL l.length l)) (CL : Aside0 (l.length ≤ cL)) (LB : Aside0 (areB l))
    (q : List Int × List Int) (HQ : Aside0 (q = redP R (l, List.replicate m (0 : Int)) R.length)) (b : Bool) (HZ : Aside0 ((q.1.all fun z => z == 0) = b)) :
    Calls Try.prog 14 #[.pointer (some ⟨B, 0, none⟩), .slice AL l.length cL] W fun e w' => e = .returned (.tuple #[.bool b, .int .i64 0]) ∧ Below W.heap.size W w' := by
  have HM := Aside0.mk (madeB_calls W B l.length m A c R H.out hg)
  have ZB := Aside0.mk (show areB (List.replicate m (0 : Int)) from fun x hx => by rw [List.eq_of_mem_replicate hx]; exact ⟨by decide, by decide⟩)
  have CF := Aside0.mk (show bytes_Clone.f l = some l from by unfold bytes_Clone.f; rw [if_pos (by omega)])
  have QL := Aside0.mk (show q.1.length < 9223372036854775807 from by
    have := (redP_ok HR.out (r := (l, List.replicate m (0 : Int))) ⟨rfl, LB.out⟩ ⟨List.length_replicate, ZB.out⟩ R.length (Nat.le_refl _)).1.1
    rw [← HQ.out] at this
    omega)
  obtain ⟨zr, hzr⟩ : ∃ zr, zr = List.replicate m (0 : Int) := ⟨_, rfl⟩
  have HZR := Aside0.mk hzr
  have ZLn := Aside0.mk (show zr.length = m from by rw [hzr, List.length_replicate])
  rw [← hzr] at HQ ZB
  clear hzr
  go_enter Try.func14, Try.ntmps14
  go_upto_region 3 with (go_at_call 23; with_reducible refine HM.out.mono ?_; rintro e w1 ⟨rfl, rfl⟩)
  have x0 := H.out.c0
  go_upto_region 5 with fail
  clear x0
  have x1 := H.out.c1
  refine start_ (n := 14) (S := fun w' => w'.cell? ⟨B, 1, none⟩ = some (.int .i64 (m : Int))) (ds := []) #[false, false, false, false, false, false, false, false, false, false, false, false, false, false] (by kernel_rfl) rfl rfl (by simpa using x1) (fun hHeld => ?_)
  have hb := below_drew (Below.refl w1.heap.size w1)
  have HW := Aside0.mk hb
  replace HL := Aside0.mk (Kd.C_below HL.out hb)
  clear hb x1
  generalize w1.drew = wd at HW HL hHeld ⊢
  have HV := Aside0.mk (Below.refl wd.heap.size wd)
  refine pure_ (i := 0) (N := some 18) (v := ?_) (a' := ?_) #[true, false, false, false, false, false, false, false, false, false, false, false, false, false] rfl rfl (by kernel_rfl) (fun _ _ _ h => h) (Or.inl ⟨by rfl, ?_⟩) ?_ ?_
  rotate_left
  · intro w'
    go_simp
    with_reducible rfl
  rotate_left
  · simp only [Act.put, List.setIfInBounds_toArray, List.set_cons_zero, List.set_cons_succ, i64_w, i32_w]
    rfl
  refine pure_ (i := 1) (N := some 19) (v := ?_) (a' := ?_) #[true, true, false, false, false, false, false, false, false, false, false, false, false, false] rfl rfl (by kernel_rfl) (fun _ _ _ h => h) (Or.inl ⟨by rfl, ?_⟩) ?_ ?_
  rotate_left
  · intro w'
    go_simp
    with_reducible rfl
  rotate_left
  · simp only [Act.put, List.setIfInBounds_toArray, List.set_cons_zero, List.set_cons_succ, i64_w, i32_w]
    rfl
  refine pure_ (i := 3) (N := some 21) (v := ?_) (a' := ?_) #[true, true, false, true, false, false, false, false, false, false, false, false, false, false] rfl rfl (by kernel_rfl) (fun _ _ _ h => h) (Or.inl ⟨by rfl, ?_⟩) ?_ ?_
  rotate_left
  · intro w'
    go_simp
    with_reducible rfl
  rotate_left
  · simp only [Act.put, List.setIfInBounds_toArray, List.set_cons_zero, List.set_cons_succ, i64_w, i32_w]
    rfl
  refine pure_ (i := 4) (N := some 22) (v := ?_) (a' := ?_) #[true, true, false, true, true, false, false, false, false, false, false, false, false, false] rfl rfl (by kernel_rfl) (fun _ _ _ h => h) (Or.inl ⟨by rfl, ?_⟩) ?_ ?_
  rotate_left
  · intro w'
    go_simp
    with_reducible rfl
  rotate_left
  · simp only [Act.put, List.setIfInBounds_toArray, List.set_cons_zero, List.set_cons_succ, i64_w, i32_w]
    rfl
  refine pure_ (i := 5) (N := some 23) (v := ?_) (a' := ?_) #[true, true, false, true, true, true, false, false, false, false, false, false, false, false] rfl rfl (by kernel_rfl) (fun _ _ _ h => h) (Or.inl ⟨by rfl, ?_⟩) ?_ ?_
  rotate_left
  · intro w'
    go_simp
    with_reducible rfl
  rotate_left
  · simp only [Act.put, List.setIfInBounds_toArray, List.set_cons_zero, List.set_cons_succ, i64_w, i32_w]
    rfl
  refine take_ (i := 6) (N := some 24) (v := ?_) (a' := ?_) #[true, true, false, true, true, true, true, false, false, false, false, false, false, false] rfl rfl (by kernel_rfl) (fun _ _ _ h => h) (Or.inl ⟨by rfl, ?_⟩) hHeld ?_ ?_
  rotate_left
  · intro w' s0
    go_simp
    with_reducible rfl
  rotate_left
  · simp only [Act.put, List.setIfInBounds_toArray, List.set_cons_zero, List.set_cons_succ, i64_w, i32_w]
    rfl
  refine join_ (σ := Value × Value) 6 #[true, true, true, true, true, true, true, true, false, false, false, false, false, false] (fun s => [(20, s.1), (25, s.2)]) (fun s w' => Below wd.heap.size wd w' ∧ ∃ A5 c5 A6 c6, s.1 = .slice A5 l.length c5 ∧ s.2 = .slice A6 zr.length c6 ∧ l.length ≤ c5 ∧ zr.length ≤ c6 ∧ Kd.F (Kd.int .u8) w' (fun j => wd.heap.size ≤ j) A5 l.length l ∧ Kd.F (Kd.int .u8) w' (fun j => wd.heap.size ≤ j) A6 zr.length zr) ?_ ?_
  rotate_left
  · intro hCont
    refine two_ (i := 2) (j := 7) (Ni := some 20) (Nj := some 25) #[true, true, true, true, true, true, true, false, false, false, false, false, false, false] #[true, true, false, true, true, true, true, true, false, false, false, false, false, false] rfl rfl rfl rfl (by kernel_rfl) (by decide) (by decide) (fun K hK => ?_) (fun K hK => ?_)
    · skip
      refine goes_ Try.func36 (by kernel_rfl) rfl #[.slice AL l.length cL] (by rfl) rfl rfl (by simp only [List.map_toArray, List.map_cons, List.map_nil]; rfl) ?_
      with_reducible refine (bytes_Clone.calls AL cL l l _ HL.out CL.out CF.out).mono ?_
      rintro e w4 ⟨v_, rfl, hR, hb⟩
      refine ⟨_, rfl, ?_⟩
      obtain ⟨A5, c5, rfl, hl, hf⟩ := new_F hR
      have L5 := Aside0.mk hl
      have F5 := Aside0.mk (Kd.F_mono hf (ok' := fun j => wd.heap.size ≤ j) (fun j hj => Nat.le_trans HV.out.size hj))
      clear hl hf hR
      replace HL := Aside0.mk (Kd.C_below HL.out hb)
      replace HV := Aside0.mk (HV.out.trans (hb.mono HV.out.size))
      refine hK.out _ _ ((H.out.step (HW.out.trans (HV.out.mono HW.out.size))).c1) (fun hHeld => ?_)
      clear hK K
      refine norm_ (a' := ?_) ?_ ?_
      rotate_left
      · show Act.put _ (some 20) _ = _
        simp only [Act.put, List.setIfInBounds_toArray, List.set_cons_zero, List.set_cons_succ, i64_w, i32_w]
        rfl
      refine one_ (i := 7) (N := some 25) #[true, true, true, true, true, true, true, true, false, false, false, false, false, false] rfl rfl (by kernel_rfl) (by decide) (fun K hK => ?_)
      refine Kd.R_make_step (Kd.int .u8) (w0 := w4) w4.heap.size 5 (by rfl) (N := 25) rfl 22 _ _ rfl (m : Int) rfl rfl Try.underlying22 (.int .u8 0) 1 infoT5 rfl (by decide) (by decide) 0 (ok := fun _ => True) (okp := fun _ => True) rfl (fun _ h => h) trivial (by omega) (by rw [Int.toNat_natCast]; omega) (Below.refl _ _) (Nat.le_refl _) ?_
      intro v_ w5 hR hb _ _
      rw [Int.toNat_natCast, ← HZR.out] at hR
      obtain ⟨A6, c6, rfl, hl, hf⟩ := new_F hR
      have L6 := Aside0.mk hl
      have F6 := Aside0.mk (Kd.F_mono hf (ok' := fun j => wd.heap.size ≤ j) (fun j hj => Nat.le_trans HV.out.size hj))
      clear hl hf hR
      replace F5 := Aside0.mk (Kd.F_below F5.out hb)
      replace HL := Aside0.mk (Kd.C_below HL.out hb)
      replace HV := Aside0.mk (HV.out.trans (hb.mono HV.out.size))
      refine hK.out _ _ ((H.out.step (HW.out.trans (HV.out.mono HW.out.size))).c1) (fun hHeld => ?_)
      clear hK K
      refine norm_ (a' := ?_) ?_ ?_
      rotate_left
      · show Act.put _ (some 25) _ = _
        simp only [Act.put, List.setIfInBounds_toArray, List.set_cons_zero, List.set_cons_succ, i64_w, i32_w]
        rfl
      exact norm_ (by first | (simp only [putAll, Act.put, List.setIfInBounds_toArray, List.set_cons_zero, List.set_cons_succ]; done) | (simp only [putAll, Act.put, List.setIfInBounds_toArray, List.set_cons_zero, List.set_cons_succ]; rfl)) (hCont (.slice A5 l.length c5, .slice A6 zr.length c6) _ ⟨HV.out, A5, c5, A6, c6, rfl, rfl, L5.out, L6.out, F5.out, F6.out⟩)
    · skip
      refine Kd.R_make_step (Kd.int .u8) (w0 := wd) wd.heap.size 5 (by rfl) (N := 25) rfl 22 _ _ rfl (m : Int) rfl rfl Try.underlying22 (.int .u8 0) 1 infoT5 rfl (by decide) (by decide) 0 (ok := fun _ => True) (okp := fun _ => True) rfl (fun _ h => h) trivial (by omega) (by rw [Int.toNat_natCast]; omega) (Below.refl _ _) (Nat.le_refl _) ?_
      intro v_ w4 hR hb _ _
      rw [Int.toNat_natCast, ← HZR.out] at hR
      obtain ⟨A6, c6, rfl, hl, hf⟩ := new_F hR
      have L6 := Aside0.mk hl
      have F6 := Aside0.mk (Kd.F_mono hf (ok' := fun j => wd.heap.size ≤ j) (fun j hj => Nat.le_trans HV.out.size hj))
      clear hl hf hR
      replace HL := Aside0.mk (Kd.C_below HL.out hb)
      replace HV := Aside0.mk (HV.out.trans (hb.mono HV.out.size))
      refine hK.out _ _ ((H.out.step (HW.out.trans (HV.out.mono HW.out.size))).c1) (fun hHeld => ?_)
      clear hK K
      refine norm_ (a' := ?_) ?_ ?_
      rotate_left
      · show Act.put _ (some 25) _ = _
        simp only [Act.put, List.setIfInBounds_toArray, List.set_cons_zero, List.set_cons_succ, i64_w, i32_w]
        rfl
      refine one_ (i := 2) (N := some 20) #[true, true, true, true, true, true, true, true, false, false, false, false, false, false] rfl rfl (by kernel_rfl) (by decide) (fun K hK => ?_)
      refine goes_ Try.func36 (by kernel_rfl) rfl #[.slice AL l.length cL] (by rfl) rfl rfl (by simp only [List.map_toArray, List.map_cons, List.map_nil]; rfl) ?_
      with_reducible refine (bytes_Clone.calls AL cL l l _ HL.out CL.out CF.out).mono ?_
      rintro e w5 ⟨v_, rfl, hR, hb⟩
      refine ⟨_, rfl, ?_⟩
      obtain ⟨A5, c5, rfl, hl, hf⟩ := new_F hR
      have L5 := Aside0.mk hl
      have F5 := Aside0.mk (Kd.F_mono hf (ok' := fun j => wd.heap.size ≤ j) (fun j hj => Nat.le_trans HV.out.size hj))
      clear hl hf hR
      replace F6 := Aside0.mk (Kd.F_below F6.out hb)
      replace HL := Aside0.mk (Kd.C_below HL.out hb)
      replace HV := Aside0.mk (HV.out.trans (hb.mono HV.out.size))
      refine hK.out _ _ ((H.out.step (HW.out.trans (HV.out.mono HW.out.size))).c1) (fun hHeld => ?_)
      clear hK K
      refine norm_ (a' := ?_) ?_ ?_
      rotate_left
      · show Act.put _ (some 20) _ = _
        simp only [Act.put, List.setIfInBounds_toArray, List.set_cons_zero, List.set_cons_succ, i64_w, i32_w]
        rfl
      exact norm_ (by first | (simp only [putAll, Act.put, List.setIfInBounds_toArray, List.set_cons_zero, List.set_cons_succ]; done) | (simp only [putAll, Act.put, List.setIfInBounds_toArray, List.set_cons_zero, List.set_cons_succ]; rfl)) (hCont (.slice A5 l.length c5, .slice A6 zr.length c6) _ ⟨HV.out, A5, c5, A6, c6, rfl, rfl, L5.out, L6.out, F5.out, F6.out⟩)
  rintro ⟨s1_, s2_⟩ w6 hJ
  dsimp only at hJ
  obtain ⟨hb, A5, c5, A6, c6, rfl, rfl, hl5, hl6, hf5, hf6⟩ := hJ
  have L5 := Aside0.mk hl5
  have L6 := Aside0.mk hl6
  have F5 := Aside0.mk hf5
  have F6 := Aside0.mk hf6
  clear hl5 hl6 hf5 hf6
  replace HL := Aside0.mk (Kd.C_below HL.out hb)
  clear HV
  have HV := Aside0.mk hb
  have hHeld := ((H.out.step (HW.out.trans (HV.out.mono HW.out.size))).c1)
  refine norm_ (a' := ?_) ?_ ?_
  rotate_left
  · simp only [putAll, Act.put, List.setIfInBounds_toArray, List.set_cons_zero, List.set_cons_succ]
    rfl
  refine pure_ (i := 8) (N := some 26) (v := ?_) (a' := ?_) #[true, true, true, true, true, true, true, true, true, false, false, false, false, false] rfl rfl (by kernel_rfl) (fun _ _ _ h => h) (Or.inl ⟨by rfl, ?_⟩) ?_ ?_
  rotate_left
  · intro w'
    go_simp
    with_reducible rfl
  rotate_left
  · simp only [Act.put, List.setIfInBounds_toArray, List.set_cons_zero, List.set_cons_succ, i64_w, i32_w]
    rfl
  refine one_ (i := 9) (N := some 27) #[true, true, true, true, true, true, true, true, true, true, false, false, false, false] rfl rfl (by kernel_rfl) (by decide) (fun K hK => ?_)
  refine goes_ Try.func24 (by kernel_rfl) rfl #[.pointer (some ⟨B, 0, none⟩), .agg #[.slice A5 l.length c5, .slice A6 zr.length c6]] (by rfl) rfl rfl (by simp only [List.map_toArray, List.map_cons, List.map_nil]; rfl) ?_
  with_reducible refine (redB_calls _ B l.length m A c R ⟨H.out.step (HW.out.trans (HV.out.mono HW.out.size))⟩ l.length m HR hn hm hRl (fun j => wd.heap.size ≤ j) A5 c5 l A6 c6 zr F5 L5 F6 L6 ⟨rfl, LB.out⟩ ⟨ZLn.out, ZB.out⟩).mono ?_
  rintro e w7 ⟨A7, c7, A8, c8, rfl, hl7, hl8, hf7, hf8, hb⟩
  refine ⟨_, rfl, ?_⟩
  rw [← HQ.out] at hl7 hl8 hf7 hf8
  rw [← HQ.out]
  have L7 := Aside0.mk hl7
  have F7 := Aside0.mk hf7
  clear hl7 hl8 hf7 hf8
  replace HL := Aside0.mk (Kd.C_below HL.out hb)
  replace HV := Aside0.mk (HV.out.trans (hb.mono HV.out.size))
  refine hK.out _ _ ((H.out.step (HW.out.trans (HV.out.mono HW.out.size))).c1) (fun hHeld => ?_)
  clear hK K
  refine norm_ (a' := ?_) ?_ ?_
  rotate_left
  · show Act.put _ (some 27) _ = _
    simp only [Act.put, List.setIfInBounds_toArray, List.set_cons_zero, List.set_cons_succ, i64_w, i32_w]
    rfl
  refine pure_ (i := 10) (N := some 28) (v := ?_) (a' := ?_) #[true, true, true, true, true, true, true, true, true, true, true, false, false, false] rfl rfl (by kernel_rfl) (fun _ _ _ h => h) (Or.inl ⟨by rfl, ?_⟩) ?_ ?_
  rotate_left
  · intro w'
    go_simp
    with_reducible rfl
  rotate_left
  · simp only [Act.put, List.setIfInBounds_toArray, List.set_cons_zero, List.set_cons_succ, i64_w, i32_w]
    rfl
  refine one_ (i := 11) (N := some 29) #[true, true, true, true, true, true, true, true, true, true, true, true, false, false] rfl rfl (by kernel_rfl) (by decide) (fun K hK => ?_)
  refine goes_ Try.func22 (by kernel_rfl) rfl #[.slice A7 q.1.length c7] (by rfl) rfl rfl (by simp only [List.map_toArray, List.map_cons, List.map_nil]; rfl) ?_
  with_reducible refine (isZ_at A7 c7 q.1 b _ (Kd.F_now F7.out) L7.out QL.out HZ.out).mono ?_
  rintro e w8 ⟨rfl, hb⟩
  refine ⟨_, rfl, ?_⟩
  replace HL := Aside0.mk (Kd.C_below HL.out hb)
  replace HV := Aside0.mk (HV.out.trans (hb.mono HV.out.size))
  refine hK.out _ _ ((H.out.step (HW.out.trans (HV.out.mono HW.out.size))).c1) (fun hHeld => ?_)
  clear hK K
  refine norm_ (a' := ?_) ?_ ?_
  rotate_left
  · show Act.put _ (some 29) _ = _
    simp only [Act.put, List.setIfInBounds_toArray, List.set_cons_zero, List.set_cons_succ, i64_w, i32_w]
    rfl
  refine pure_ (i := 12) (N := some 4) (v := ?_) (a' := ?_) #[true, true, true, true, true, true, true, true, true, true, true, true, true, false] rfl rfl (by kernel_rfl) (fun _ _ _ h => h) (Or.inl ⟨by rfl, ?_⟩) ?_ ?_
  rotate_left
  · intro w'
    go_simp
    with_reducible rfl
  rotate_left
  · simp only [Act.put, List.setIfInBounds_toArray, List.set_cons_zero, List.set_cons_succ, i64_w, i32_w]
    rfl
  refine pure_ (i := 13) (N := some 5) (v := ?_) (a' := ?_) #[true, true, true, true, true, true, true, true, true, true, true, true, true, true] rfl rfl (by kernel_rfl) (fun _ _ _ h => h) (Or.inl ⟨by rfl, ?_⟩) ?_ ?_
  rotate_left
  · intro w'
    go_simp
    with_reducible rfl
  rotate_left
  · simp only [Act.put, List.setIfInBounds_toArray, List.set_cons_zero, List.set_cons_succ, i64_w, i32_w]
    rfl
  refine done_ (by kernel_rfl) ?_
  have HB := Aside0.mk (HW.out.trans (HV.out.mono HW.out.size))
  clear hHeld
  go_wp2
  go_ret2
  exact ⟨rfl, HB.out⟩
end Go.Proofs.Ytpfaaljmefgpbaa.Hand
end
