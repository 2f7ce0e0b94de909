/- QTB, part 28: HTop. -/
import Derived.Test.YtpfaaljmefgpbaaQTB27
import Derived.BigQuiet

section
set_option linter.unusedVariables false
set_option linter.unusedSimpArgs false
namespace Go.Proofs.Ytpfaaljmefgpbaa.Plain
open Go.Proofs.Ytpfaaljmefgpbaa.Hand Go.Proofs.Ytpfaaljmefgpbaa.GF Go.Proofs.Ytpfaaljmefgpbaa.LA Go.RowKit Go.Proofs.Ytpfaaljmefgpbaa.P Go.Proofs.YtpfaaljmefgpbaaW.PrintWords Go.Proofs.YtpfaaljmefgpbaaW.PrintLast Go.Proofs.YtpfaaljmefgpbaaW.PrintMore
set_option maxHeartbeats 8000000 in
set_option maxRecDepth 100000 in
theorem top_walk (w : World) (A0 : Option Addr) (c0 : Nat) (b : List Int) (z0 z1 : Int) (A2 : Option Addr) (c2 : Nat) (took : List (List Int)) (A3 : Option Addr) (c3 : Nat) (ask : List Int) (Hb : Aside0 (Kd.C (Kd.int .u8) w A0 b.length b)) (Cb : Aside0 (b.length ≤ c0)) (Ht : Aside0 (Kd.C rowK w A2 took.length took)) (Ct : Aside0 (took.length ≤ c2)) (Hk : Aside0 (Kd.C (Kd.int .u8) w A3 ask.length ask)) (Ck : Aside0 (ask.length ≤ c3)) (TB : Aside0 (∀ x ∈ took, areB x)) (KB : Aside0 (areB ask))
    (g s : Nat) (hz0 : wrap64 (1 + wrap64 (Int.tmod z0 6)) = (g : Int)) (hz1 : wrap64 (1 + wrap64 (Int.tmod z1 6)) = (s : Int)) (hgs : Aside0 ((1 ≤ g ∧ g ≤ 6) ∧ (1 ≤ s ∧ s ≤ 6))) (sy : List (List Int)) (FS : Aside0 (PL.braidworktop_laySymbols.f 2000 b (g : Int) (s : Int) = some sy)) (hsl : Aside0 (sy.length = g)) (hsy : Aside0 (Fits s sy))
    (C : List (List Int)) (HC : Aside0 (C = (took.take 16).map fun l => filled l g)) :
    Calls Try.prog 3 #[.slice A0 b.length c0, .agg #[.int .u8 z0, .int .u8 z1], .slice A2 took.length c2, .slice A3 ask.length c3] w fun e w' => e = .returned (.bool true) ∧ Below w.heap.size w w' := by
  have CF := Aside0.mk (show Fits g C from by
    rw [HC.out]
    intro r hr
    obtain ⟨l, hl, rfl⟩ := List.mem_map.1 hr
    exact ⟨filled_length l g, filled_B (TB.out l (List.mem_of_mem_take hl)) g⟩)
  have CL := Aside0.mk (show C.length ≤ 16 from by rw [HC.out, List.length_map, List.length_take]; omega)
  have HTT := Aside0.mk (show (took.take 16).map (rowOf s sy g) = pairs s sy C from by rw [HC.out]; unfold pairs; rw [List.map_map]; rfl)
  go_enter Try.func3, Try.ntmps3
  go_upto_region 1 with fail
  go_quiet (fail)
  rw [hz0, hz1]
  have HW := Aside0.mk (pw_below_drewN (below_alloc (Below.refl w.heap.size w) (.cells #[.int .u8 z0, .int .u8 z1] 23)) nq)
  generalize (w.alloc (.cells #[.int .u8 z0, .int .u8 z1] 23)).drewN nq = w1 at HW ⊢
  clear hz0 hz1
  go_upto_region 5 with (first
    | (go_at_call 4; with_reducible refine (PL.braidworktop_laySymbols.calls 2000 A0 c0 b (g : Int) (s : Int) sy _ (Kd.C_below Hb.out HW.out) Cb.out FS.out).mono ?_; rintro e w2 ⟨v_, rfl, ho_, hb⟩; obtain ⟨AS, cS, rfl, hcs, hs_⟩ := N_slice_n hsl.out (Kd.S_N ho_); have HSy := Aside0.mk hs_; have CSy := Aside0.mk hcs; replace HW := Aside0.mk (HW.out.trans (hb.mono HW.out.size)); clear ho_ hb hs_ hcs)
    | (go_at_call 5; with_reducible refine (layRows_calls _ A2 c2 took AS cS sy g s ⟨Kd.C_below Ht.out HW.out⟩ Ct HSy CSy TB hsy hsl ⟨by have := hgs.out; omega, by have := hgs.out; omega, by have := hgs.out; omega⟩ (pairs s sy C) HTT).mono ?_; rintro e w3 ⟨v_, rfl, ho_, hb⟩; obtain ⟨AW, cW, rfl⟩ := Kd.N_slice ho_; have HR := Aside0.mk ho_; replace HSy := Aside0.mk (Kd.C_below HSy.out hb); replace HW := Aside0.mk (HW.out.trans (hb.mono HW.out.size)); clear ho_ hb)
    | (go_at_call 6; with_reducible refine (new_calls _ g s hgs.out.1 hgs.out.2).mono ?_; rintro e w4 ⟨rfl, hB, hb⟩; have HBas := Aside0.mk hB; have HBB := Aside0.mk hb; clear hB hb))
  clear FS HTT HC Hb Cb Ht Ct TB
  go_wp2
  generalize hBn : w3.heap.size = B at HBas HBB ⊢
  have Bsz := Aside0.mk hBn
  generalize hn : (pairs s sy C).length = n at HR ⊢
  have hCn := Aside0.mk (show C.length = n from by rw [← hn, pairs_length])
  clear hBn hn
  go_loopg [17, 15, 16] n (fun kq v17 v15 v16 w' => ∃ i : Nat, v17 = .int .i64 (i : Int) ∧ Aside0 (kq + i = n) ∧ Aside0 (∃ A' c', BasisIs w' B g s A' c' (put g s sy C i) ∧ Foot w' B v15 v16 A' (put g s sy C i)) ∧ Aside0 (Kd.N rowK 22 w' B (fun k => k ≠ B ∧ some k ≠ v16.ownBlock) v15 (C.take i)) ∧ Aside0 (Kd.N rowK 22 w' B (fun k => k ≠ B ∧ some k ≠ v15.ownBlock) v16 ((newTo C i).map (payL s sy))) ∧ Aside0 (Below B w3 w'))
  case atStart => exact ⟨0, rfl, ⟨by omega⟩, ⟨none, 0, by show BasisIs _ B g s none 0 (pairs s sy (redRows ([] : List (List Int)) g)); unfold redRows; rw [redTo_nil]; exact HBas.out, by show Foot _ B _ _ none (pairs s sy (redRows ([] : List (List Int)) g)); unfold redRows; rw [redTo_nil]; exact Kd.F_nil _ _ _⟩, ⟨by rw [List.take_zero]; exact Kd.N_nil _ _ _ _ _⟩, ⟨Kd.N_nil _ _ _ _ _⟩, HBB⟩
  case round =>
    clear HBas HBB
    obtain ⟨i, rfl, HI, HBS, H15, H16, HWB⟩ := hrel
    by_cases hi : i < n
    · have p1 : (i : Int) < (n : Int) := Int.ofNat_lt.2 hi
      have r1 : decide ((i : Int) < (n : Int)) = true := decide_eq_true p1
      have r4 := eq_true (Int.natCast_nonneg i)
      have r5 := eq_true p1
      have r6 := eq_true hi
      have hnx := bas_next i (by have := CL.out; have := hCn.out; omega)
      have hiC := Aside0.mk (show i < C.length from by rw [hCn.out]; exact hi)
      obtain ⟨gb, A1, c1, AP, cP, hA, x1, x2, k1, k2, f1, f2⟩ := pairs_row HR.out CF.out hsy.out hiC.out
      have GB := Aside0.mk (show gb < B from by have := Kd.N_lt HR.out gb (by rw [hA]; rfl); rw [Bsz.out] at this; exact this)
      obtain ⟨a1, ha1⟩ : ∃ a1, a1 = C.getD i [] := ⟨_, rfl⟩
      rw [← ha1] at f1 f2
      obtain ⟨a2, ha2⟩ : ∃ a2, a2 = payL s sy a1 := ⟨_, rfl⟩
      rw [← ha2] at f2
      have hWB' : Below w3.heap.size w3 wr := by rw [Bsz.out]; exact HWB.out
      have F1 := Aside0.mk (Kd.F_mono (Kd.F_below (Kd.F_bound f1) hWB') (ok' := fun j => j < B) (fun j hj => by have := hj.2; rw [Bsz.out] at this; exact this))
      have F2 := Aside0.mk (Kd.F_mono (Kd.F_below (Kd.F_bound f2) hWB') (ok' := fun j => j < B) (fun j hj => by have := hj.2; rw [Bsz.out] at this; exact this))
      have K1 := Aside0.mk k1
      have K2 := Aside0.mk k2
      have X1 := Aside0.mk x1
      have X2 := Aside0.mk x2
      have HA1 := Aside0.mk ha1
      have HA2 := Aside0.mk ha2
      have L1 := Aside0.mk (show a1.length = g ∧ areB a1 from by rw [ha1]; exact getD_fits CF.out hiC.out)
      have L2 := Aside0.mk (show a2.length = s from by rw [ha2]; exact (payL_spec hsy.out a1).1)
      have HSU := Aside0.mk (show C.take i ++ [a1] = C.take (i + 1) from by rw [take_snoc hiC.out, ha1])
      have TL := Aside0.mk (show (C.take i).length = i from by have := hiC.out; rw [List.length_take]; omega)
      have LE1 := Aside0.mk (show ((C.take i).length + 1) * 24 ≤ 140737488355328 from by have := CL.out; have := hiC.out; rw [TL.out]; omega)
      have LE2 := Aside0.mk (show (((newTo C i).map (payL s sy)).length + 1) * 24 ≤ 140737488355328 from by have := newTo_le CF.out (Nat.le_of_lt hiC.out); have := hgs.out; rw [List.length_map]; omega)
      obtain ⟨A15, c15, rfl, k15, C15⟩ := N_slice_n (n := i) TL.out H15.out
      have K15 := Aside0.mk k15
      have D15 := Aside0.mk C15
      obtain ⟨Ab, cb, hBi, hFo⟩ := HBS.out
      have HBi := Aside0.mk hBi
      have HFo := Aside0.mk hFo
      have BLT := Aside0.mk (WorkIs.heap_lt' hBi.blk)
      have hx1 := (HWB.out.cell (p := ⟨gb, i * 2, none⟩) GB.out).trans X1.out
      have hx2 := (HWB.out.cell (p := ⟨gb, i * 2 + 1, none⟩) GB.out).trans X2.out
      subst hA
      have I16 := Aside0.mk (show i ≤ 16 from by have := CL.out; have := hiC.out; omega)
      clear x1 x2 k1 k2 f1 f2 ha1 ha2 k15 C15 hBi hFo HBS hWB' p1 hi
      cases gk with
      | zero => exact absurd HI.out (by have := hiC.out; have := hCn.out; omega)
      | succ kk1 =>
      cases hq : isIn C i with
      | true =>
        have HQ := Aside0.mk hq
        have HQa := Aside0.mk (show hasB (C.take i) a1 = true from by rw [HA1.out]; exact hq)
        clear hq
        go_wp2_with (first
          | (go_at_call 7; go_loud (with_reducible refine (has_at (g := g) _ (take_fits CF.out i) TL.out L1.out.1 L1.out.2 hgs.out.1.2 I16.out D15.out K15.out (by exact Kd.F_now F1.out) K1.out true HQa.out).mono ?_; rintro e w5 ⟨rfl, hb⟩; clear hx1 hx2; replace H15 := Aside0.mk (Kd.N_below H15.out hb); replace H16 := Aside0.mk (Kd.N_below H16.out hb); replace F1 := Aside0.mk (Kd.F_below F1.out hb); replace F2 := Aside0.mk (Kd.F_below F2.out hb); replace HBi := Aside0.mk (HBi.out.step hb); replace HFo := Aside0.mk (foot_below HFo.out hb); replace HWB := Aside0.mk (HWB.out.trans (hb.mono (Nat.le_of_lt BLT.out))); replace BLT := Aside0.mk (Nat.lt_of_lt_of_le BLT.out hb.size); have hx1 := (HWB.out.cell (p := ⟨gb, i * 2, none⟩) GB.out).trans X1.out; have hx2 := (HWB.out.cell (p := ⟨gb, i * 2 + 1, none⟩) GB.out).trans X2.out; clear hb))
          | (go_at_call 8; go_loud (with_reducible refine (ins_at (sy := sy) _ B Ab cb i CF.out hiC.out CL.out hsy.out hgs.out.1 hgs.out.2 HBi.out a1 a2 HA1.out HA2.out A1 c1 AP cP (Kd.F_now F1.out) K1.out (Kd.F_now F2.out) K2.out true HQ.out (.slice A15 i c15) _ HFo.out (Kd.N_lt H15.out) (Kd.N_lt H16.out)).mono ?_; rintro e w6 ⟨rfl, hB6, hb6, hs6, hh6⟩; clear hx1 hx2; simp only [Bool.not_true, Bool.not_false]; replace H15 := Aside0.mk (Kd.N_step H15.out (fun k hk hlt => hh6 k hk.1 hlt)); replace H16 := Aside0.mk (Kd.N_step H16.out (fun k hk hlt => hh6 k hk.1 hlt)); replace F1 := Aside0.mk (Kd.F_step F1.out (fun k hk hlt => hh6 k (Nat.ne_of_lt hk) hlt)); replace F2 := Aside0.mk (Kd.F_step F2.out (fun k hk hlt => hh6 k (Nat.ne_of_lt hk) hlt)); replace HWB := Aside0.mk (HWB.out.trans hb6); replace BLT := Aside0.mk (Nat.lt_of_lt_of_le BLT.out hs6); clear HBi HFo D15; obtain ⟨Ab, cb, hBi, hFo⟩ := hB6; have HBi := Aside0.mk hBi; have HFo := Aside0.mk hFo; clear hBi hFo hb6 hs6 hh6; have hx1 := (HWB.out.cell (p := ⟨gb, i * 2, none⟩) GB.out).trans X1.out; have hx2 := (HWB.out.cell (p := ⟨gb, i * 2 + 1, none⟩) GB.out).trans X2.out))
          | ((with_reducible refine gate_dst (N := 109) rfl ?_); (try (refine gate_guard (by rfl) ?_; dsimp only)); go_loud (refine Kd.N_lit rowK (w0 := w6) w6.heap.size 22 ?hg (N' := 109) ?hd (xs := [a1]) (inner := [.slice A1 g c1]) (ok := fun j => j < B ∨ w6.heap.size ≤ j) (okp := fun j => j < B) ?hr (Reps.one (show Kd.FK rowK _ _ a1 [.slice A1 g c1] from FK_row_n L1.out.1 K1.out F1.out) (Reps.none _ _)) (fun _ h => Or.inl h) (Or.inr (Nat.le_refl _)) (Below.refl _ _) (Nat.le_refl _) (by simp) ?_; (case hd => rfl); (case hg => rfl); (case hr => first | (go_simp; done) | (go_simp; rfl)); intro v_ w7 ho_ hb _ _; obtain ⟨AL, cL, rfl⟩ := Kd.N_slice ho_; have HFL := Aside0.mk (Kd.N_F ho_); have HD := Aside0.mk (And.intro (Kd.N_lt H15.out) (Kd.N_lt H16.out)); have HD2 := Aside0.mk BLT.out; clear hx1 hx2; replace H15 := Aside0.mk (Kd.N_below H15.out hb); replace H16 := Aside0.mk (Kd.N_below H16.out hb); replace F1 := Aside0.mk (Kd.F_below F1.out hb); replace F2 := Aside0.mk (Kd.F_below F2.out hb); replace HBi := Aside0.mk (HBi.out.step hb); replace HFo := Aside0.mk (foot_below HFo.out hb); replace HWB := Aside0.mk (HWB.out.trans (hb.mono (Nat.le_of_lt BLT.out))); replace BLT := Aside0.mk (Nat.lt_of_lt_of_le BLT.out hb.size); have hx1 := (HWB.out.cell (p := ⟨gb, i * 2, none⟩) GB.out).trans X1.out; have hx2 := (HWB.out.cell (p := ⟨gb, i * 2 + 1, none⟩) GB.out).trans X2.out; clear ho_ hb))
          | ((with_reducible refine gate_builtin (b := .append) (xs := #[.tmp 103, .tmp 109]) rfl ?_); at_builtin; go_loud (refine Kd.N_append_rows rowK (w0 := w3) B rfl (.tmp 103) (.tmp 109) 24 22 (.slice none 0 0) 24 rfl Try.underlying24 infoRows rfl (show 0 < 1 by decide) (by decide) (.slice A15 i c15) (C.take i) [a1] AL 1 cL (fun k => k ≠ B ∧ some k ≠ u16.ownBlock) (fun j => j < B ∨ w6.heap.size ≤ j) rfl rfl H15.out HFL.out (fun j hj => ⟨⟨fun e => by rcases hj with hj | hj <;> (have := HD2.out; omega), fun e => by rcases hj with hj | hj; (have := Kd.N_base H16.out j e.symm; omega); (have := HD.out.2 j e.symm; omega)⟩, fun e => by rcases hj with hj | hj; (have := Kd.N_base H15.out j e.symm; omega); (have := HD.out.1 j e.symm; omega)⟩) (fun j hj => ⟨by have := BLT.out; omega, fun e => by have := Kd.N_lt H16.out j e.symm; omega⟩) HWB.out (Nat.le_of_lt BLT.out) (by exact LE1.out) ?_; have HO15 := Aside0.mk H15.out; intro v15_ w8 hN4 hb4 hg4 hat4; rw [HSU.out] at hN4; have hf4 := foot_left HBi.out HFo.out (fun e => H15.out.1 B e.symm |>.1 rfl) hg4 hat4; clear hx1 hx2; replace HBi := Aside0.mk hf4.1; replace HFo := Aside0.mk hf4.2; replace H16 := Aside0.mk (Kd.N_after H16.out hg4 hat4); replace H15 := Aside0.mk hN4; replace F1 := Aside0.mk (Kd.F_step F1.out (fun k hk hlt => hg4.block k hlt (fun e => absurd (Kd.N_base HO15.out k e.symm) (Nat.not_le.2 hk)))); replace F2 := Aside0.mk (Kd.F_step F2.out (fun k hk hlt => hg4.block k hlt (fun e => absurd (Kd.N_base HO15.out k e.symm) (Nat.not_le.2 hk)))); replace HWB := Aside0.mk hb4; replace BLT := Aside0.mk (WorkIs.heap_lt' HBi.out.blk); clear hN4 hb4 hg4 hat4 hf4 HFL HD HD2; have hx1 := (HWB.out.cell (p := ⟨gb, i * 2, none⟩) GB.out).trans X1.out; have hx2 := (HWB.out.cell (p := ⟨gb, i * 2 + 1, none⟩) GB.out).trans X2.out)))
        go_roundg kk1
        case measure => omega
        case rel => exact ⟨i + 1, by first | rfl | rw [hnx], ⟨by have := HI.out; omega⟩, ⟨Ab, cb, HBi.out, HFo.out⟩, H15, ⟨by show Kd.N _ _ _ _ _ _ ((if isIn C i = true then newTo C i else newTo C i ++ [C.getD i []]).map (payL s sy)); rw [HQ.out]; exact H16.out⟩, HWB⟩
      | false =>
        have HQ := Aside0.mk hq
        have HQa := Aside0.mk (show hasB (C.take i) a1 = false from by rw [HA1.out]; exact hq)
        clear hq
        go_wp2_with (first
          | (go_at_call 7; go_loud (with_reducible refine (has_at (g := g) _ (take_fits CF.out i) TL.out L1.out.1 L1.out.2 hgs.out.1.2 I16.out D15.out K15.out (by exact Kd.F_now F1.out) K1.out false HQa.out).mono ?_; rintro e w5 ⟨rfl, hb⟩; clear hx1 hx2; replace H15 := Aside0.mk (Kd.N_below H15.out hb); replace H16 := Aside0.mk (Kd.N_below H16.out hb); replace F1 := Aside0.mk (Kd.F_below F1.out hb); replace F2 := Aside0.mk (Kd.F_below F2.out hb); replace HBi := Aside0.mk (HBi.out.step hb); replace HFo := Aside0.mk (foot_below HFo.out hb); replace HWB := Aside0.mk (HWB.out.trans (hb.mono (Nat.le_of_lt BLT.out))); replace BLT := Aside0.mk (Nat.lt_of_lt_of_le BLT.out hb.size); have hx1 := (HWB.out.cell (p := ⟨gb, i * 2, none⟩) GB.out).trans X1.out; have hx2 := (HWB.out.cell (p := ⟨gb, i * 2 + 1, none⟩) GB.out).trans X2.out; clear hb))
          | (go_at_call 8; go_loud (with_reducible refine (ins_at (sy := sy) _ B Ab cb i CF.out hiC.out CL.out hsy.out hgs.out.1 hgs.out.2 HBi.out a1 a2 HA1.out HA2.out A1 c1 AP cP (Kd.F_now F1.out) K1.out (Kd.F_now F2.out) K2.out false HQ.out (.slice A15 i c15) _ HFo.out (Kd.N_lt H15.out) (Kd.N_lt H16.out)).mono ?_; rintro e w6 ⟨rfl, hB6, hb6, hs6, hh6⟩; clear hx1 hx2; simp only [Bool.not_true, Bool.not_false]; replace H15 := Aside0.mk (Kd.N_step H15.out (fun k hk hlt => hh6 k hk.1 hlt)); replace H16 := Aside0.mk (Kd.N_step H16.out (fun k hk hlt => hh6 k hk.1 hlt)); replace F1 := Aside0.mk (Kd.F_step F1.out (fun k hk hlt => hh6 k (Nat.ne_of_lt hk) hlt)); replace F2 := Aside0.mk (Kd.F_step F2.out (fun k hk hlt => hh6 k (Nat.ne_of_lt hk) hlt)); replace HWB := Aside0.mk (HWB.out.trans hb6); replace BLT := Aside0.mk (Nat.lt_of_lt_of_le BLT.out hs6); clear HBi HFo D15; obtain ⟨Ab, cb, hBi, hFo⟩ := hB6; have HBi := Aside0.mk hBi; have HFo := Aside0.mk hFo; clear hBi hFo hb6 hs6 hh6; have hx1 := (HWB.out.cell (p := ⟨gb, i * 2, none⟩) GB.out).trans X1.out; have hx2 := (HWB.out.cell (p := ⟨gb, i * 2 + 1, none⟩) GB.out).trans X2.out))
          | ((with_reducible refine gate_dst (N := 109) rfl ?_); (try (refine gate_guard (by rfl) ?_; dsimp only)); go_loud (refine Kd.N_lit rowK (w0 := w6) w6.heap.size 22 ?hg (N' := 109) ?hd (xs := [a1]) (inner := [.slice A1 g c1]) (ok := fun j => j < B ∨ w6.heap.size ≤ j) (okp := fun j => j < B) ?hr (Reps.one (show Kd.FK rowK _ _ a1 [.slice A1 g c1] from FK_row_n L1.out.1 K1.out F1.out) (Reps.none _ _)) (fun _ h => Or.inl h) (Or.inr (Nat.le_refl _)) (Below.refl _ _) (Nat.le_refl _) (by simp) ?_; (case hd => rfl); (case hg => rfl); (case hr => first | (go_simp; done) | (go_simp; rfl)); intro v_ w7 ho_ hb _ _; obtain ⟨AL, cL, rfl⟩ := Kd.N_slice ho_; have HFL := Aside0.mk (Kd.N_F ho_); have HD := Aside0.mk (And.intro (Kd.N_lt H15.out) (Kd.N_lt H16.out)); have HD2 := Aside0.mk BLT.out; clear hx1 hx2; replace H15 := Aside0.mk (Kd.N_below H15.out hb); replace H16 := Aside0.mk (Kd.N_below H16.out hb); replace F1 := Aside0.mk (Kd.F_below F1.out hb); replace F2 := Aside0.mk (Kd.F_below F2.out hb); replace HBi := Aside0.mk (HBi.out.step hb); replace HFo := Aside0.mk (foot_below HFo.out hb); replace HWB := Aside0.mk (HWB.out.trans (hb.mono (Nat.le_of_lt BLT.out))); replace BLT := Aside0.mk (Nat.lt_of_lt_of_le BLT.out hb.size); have hx1 := (HWB.out.cell (p := ⟨gb, i * 2, none⟩) GB.out).trans X1.out; have hx2 := (HWB.out.cell (p := ⟨gb, i * 2 + 1, none⟩) GB.out).trans X2.out; clear ho_ hb))
          | ((with_reducible refine gate_builtin (b := .append) (xs := #[.tmp 103, .tmp 109]) rfl ?_); at_builtin; go_loud (refine Kd.N_append_rows rowK (w0 := w3) B rfl (.tmp 103) (.tmp 109) 24 22 (.slice none 0 0) 24 rfl Try.underlying24 infoRows rfl (show 0 < 1 by decide) (by decide) (.slice A15 i c15) (C.take i) [a1] AL 1 cL (fun k => k ≠ B ∧ some k ≠ u16.ownBlock) (fun j => j < B ∨ w6.heap.size ≤ j) rfl rfl H15.out HFL.out (fun j hj => ⟨⟨fun e => by rcases hj with hj | hj <;> (have := HD2.out; omega), fun e => by rcases hj with hj | hj; (have := Kd.N_base H16.out j e.symm; omega); (have := HD.out.2 j e.symm; omega)⟩, fun e => by rcases hj with hj | hj; (have := Kd.N_base H15.out j e.symm; omega); (have := HD.out.1 j e.symm; omega)⟩) (fun j hj => ⟨by have := BLT.out; omega, fun e => by have := Kd.N_lt H16.out j e.symm; omega⟩) HWB.out (Nat.le_of_lt BLT.out) (by exact LE1.out) ?_; have HO15 := Aside0.mk H15.out; intro v15_ w8 hN4 hb4 hg4 hat4; rw [HSU.out] at hN4; have hf4 := foot_left HBi.out HFo.out (fun e => H15.out.1 B e.symm |>.1 rfl) hg4 hat4; clear hx1 hx2; replace HBi := Aside0.mk hf4.1; replace HFo := Aside0.mk hf4.2; replace H16 := Aside0.mk (Kd.N_after H16.out hg4 hat4); replace H15 := Aside0.mk hN4; replace F1 := Aside0.mk (Kd.F_step F1.out (fun k hk hlt => hg4.block k hlt (fun e => absurd (Kd.N_base HO15.out k e.symm) (Nat.not_le.2 hk)))); replace F2 := Aside0.mk (Kd.F_step F2.out (fun k hk hlt => hg4.block k hlt (fun e => absurd (Kd.N_base HO15.out k e.symm) (Nat.not_le.2 hk)))); replace HWB := Aside0.mk hb4; replace BLT := Aside0.mk (WorkIs.heap_lt' HBi.out.blk); clear hN4 hb4 hg4 hat4 hf4 HFL HD HD2; have hx1 := (HWB.out.cell (p := ⟨gb, i * 2, none⟩) GB.out).trans X1.out; have hx2 := (HWB.out.cell (p := ⟨gb, i * 2 + 1, none⟩) GB.out).trans X2.out))
          | ((with_reducible refine gate_dst (N := 118) rfl ?_); (try (refine gate_guard (by rfl) ?_; dsimp only)); go_loud (refine Kd.N_lit rowK (w0 := w8) w8.heap.size 22 ?hg (N' := 118) ?hd (xs := [a2]) (inner := [.slice AP s cP]) (ok := fun j => j < B ∨ w8.heap.size ≤ j) (okp := fun j => j < B) ?hr (Reps.one (show Kd.FK rowK _ _ a2 [.slice AP s cP] from FK_row_n L2.out K2.out F2.out) (Reps.none _ _)) (fun _ h => Or.inl h) (Or.inr (Nat.le_refl _)) (Below.refl _ _) (Nat.le_refl _) (by simp) ?_; (case hd => rfl); (case hg => rfl); (case hr => first | (go_simp; done) | (go_simp; rfl)); intro v_ w9 ho_ hb _ _; obtain ⟨AL, cL, rfl⟩ := Kd.N_slice ho_; have HFL := Aside0.mk (Kd.N_F ho_); have HD := Aside0.mk (And.intro (Kd.N_lt H15.out) (Kd.N_lt H16.out)); have HD2 := Aside0.mk BLT.out; clear hx1 hx2; replace H15 := Aside0.mk (Kd.N_below H15.out hb); replace H16 := Aside0.mk (Kd.N_below H16.out hb); replace F1 := Aside0.mk (Kd.F_below F1.out hb); replace F2 := Aside0.mk (Kd.F_below F2.out hb); replace HBi := Aside0.mk (HBi.out.step hb); replace HFo := Aside0.mk (foot_below HFo.out hb); replace HWB := Aside0.mk (HWB.out.trans (hb.mono (Nat.le_of_lt BLT.out))); replace BLT := Aside0.mk (Nat.lt_of_lt_of_le BLT.out hb.size); have hx1 := (HWB.out.cell (p := ⟨gb, i * 2, none⟩) GB.out).trans X1.out; have hx2 := (HWB.out.cell (p := ⟨gb, i * 2 + 1, none⟩) GB.out).trans X2.out; clear ho_ hb))
          | ((with_reducible refine gate_builtin (b := .append) (xs := #[.tmp 112, .tmp 118]) rfl ?_); at_builtin; go_loud (refine Kd.N_append_rows rowK (w0 := w3) B rfl (.tmp 112) (.tmp 118) 24 22 (.slice none 0 0) 24 rfl Try.underlying24 infoRows rfl (show 0 < 1 by decide) (by decide) u16 ((newTo C i).map (payL s sy)) [a2] AL 1 cL (fun k => k ≠ B ∧ some k ≠ v15_.ownBlock) (fun j => j < B ∨ w8.heap.size ≤ j) rfl rfl H16.out HFL.out (fun j hj => ⟨⟨fun e => by rcases hj with hj | hj <;> (have := HD2.out; omega), fun e => by rcases hj with hj | hj; (have := Kd.N_base H15.out j e.symm; omega); (have := HD.out.1 j e.symm; omega)⟩, fun e => by rcases hj with hj | hj; (have := Kd.N_base H16.out j e.symm; omega); (have := HD.out.2 j e.symm; omega)⟩) (fun j hj => ⟨by have := BLT.out; omega, fun e => by have := Kd.N_lt H15.out j e.symm; omega⟩) HWB.out (Nat.le_of_lt BLT.out) (by exact LE2.out) ?_; intro v16_ w10 hN4 hb4 hg4 hat4; have hf4 := foot_right HBi.out HFo.out (fun e => H16.out.1 B e.symm |>.1 rfl) hg4 hat4; clear hx1 hx2; replace HBi := Aside0.mk hf4.1; replace HFo := Aside0.mk hf4.2; replace H15 := Aside0.mk (Kd.N_after H15.out hg4 hat4); replace H16 := Aside0.mk hN4; replace HWB := Aside0.mk hb4; clear hN4 hb4 hg4 hat4 hf4 HFL HD HD2)))
        go_roundg kk1
        case measure => omega
        case rel => exact ⟨i + 1, by first | rfl | rw [hnx], ⟨by have := HI.out; omega⟩, ⟨Ab, cb, HBi.out, HFo.out⟩, H15, ⟨by show Kd.N _ _ _ _ _ _ ((if isIn C i = true then newTo C i else newTo C i ++ [C.getD i []]).map (payL s sy)); rw [HQ.out]; rw [if_neg (by decide), List.map_append, List.map_singleton, ← HA1.out, ← HA2.out]; exact H16.out⟩, HWB⟩
    · have p1 : ¬ (i : Int) < (n : Int) := fun h => hi (Int.ofNat_lt.1 h)
      have r1 : decide ((i : Int) < (n : Int)) = false := decide_eq_false p1
      have r5 := eq_false p1
      have r6 := eq_false hi
      have hin : i = n := by have := HI.out; omega
      have hte : C.take i = C := List.take_of_length_le (by have := hCn.out; omega)
      have hic : i = C.length := by have := hCn.out; omega
      obtain ⟨Ab, cb, hBi, hFo⟩ := HBS.out
      have HBi := Aside0.mk (show BasisIs wr B g s Ab cb (pairs s sy (redRows C g)) from by have h := hBi; unfold put at h; rw [hte] at h; exact h)
      obtain ⟨A15, c15, rfl, k15, C15⟩ := N_slice_n (n := n) (by rw [hte]; exact hCn.out) H15.out
      rw [hte] at k15 C15
      obtain ⟨m, hm⟩ : ∃ m, m = (newTo C C.length).length := ⟨_, rfl⟩
      obtain ⟨A16, c16, rfl, k16, C16⟩ := N_slice_n (n := m) (by rw [List.length_map, hic, hm]) H16.out
      rw [hic] at k16 C16
      have HM := Aside0.mk hm
      have K15 := Aside0.mk k15
      have D15 := Aside0.mk C15
      have K16 := Aside0.mk k16
      have D16 := Aside0.mk C16
      have hWB' : Below w3.heap.size w3 wr := by rw [Bsz.out]; exact HWB.out
      replace HSy := Aside0.mk (Kd.C_below HSy.out hWB')
      replace HW := Aside0.mk (HW.out.trans (hWB'.mono HW.out.size))
      replace Hk := Aside0.mk (Kd.C_below Hk.out HW.out)
      clear hBi hFo HBS H15 H16 HI HWB k15 C15 k16 C16 hm hWB' hic hte hin hi p1 HR
      obtain ⟨D, hD⟩ : ∃ D, D = redRows C g := ⟨_, rfl⟩
      obtain ⟨r, hr⟩ : ∃ r, r = rk g (vecs C) := ⟨_, rfl⟩
      have RK := Aside0.mk hr.symm
      have DE := Aside0.mk hD
      have DF := Aside0.mk (show Fits g D from by rw [hD]; exact (redRows_spec CF.out).choose_spec.2.2.1)
      have DL := Aside0.mk (show D.length = r from by rw [hD, hr]; exact redRows_rank CF.out)
      have RG := Aside0.mk (show r ≤ g ∧ r = m from by
        have h1 := (newTo_spec CF.out C.length (Nat.le_refl _)).2.2
        rw [List.take_length, ← HM.out, ← hr] at h1
        have h2 := newTo_le CF.out (Nat.le_refl C.length)
        rw [← HM.out] at h2
        omega)
      have N16 := Aside0.mk (show n ≤ 16 from by have := CL.out; have := hCn.out; omega)
      have HU := Aside0.mk (Below.refl wr.heap.size wr)
      clear hD hr
      rw [← DE.out] at HBi
      go_upto_region 21 with (first
        | (go_at_call 9; go_loud (with_reducible refine (rowsB_at _ B Ab cb CF.out CL.out hsy.out hgs.out.1 hgs.out.2 (by rw [← DE.out]; exact HBi.out.step HU.out)).mono ?_; rintro e w5 ⟨v_, rfl, ho_, hb⟩; rw [← DE.out] at ho_; obtain ⟨AR, cR, rfl⟩ := P_slice_n (n := r) (by rw [pairs_length]; exact DL.out) ho_; have HRr := Aside0.mk ho_; replace HU := Aside0.mk (HU.out.trans (hb.mono HU.out.size)); clear ho_ hb))
        | (go_at_call 10; go_loud (with_reducible refine (red_at (g := g) _ CF.out hCn.out hgs.out.1.2 N16.out (Kd.C_below D15.out HU.out) K15.out).mono ?_; rintro e w6 ⟨v_, rfl, ho_, hb⟩; rw [← DE.out] at ho_; obtain ⟨AD, cD, rfl, kD, CD⟩ := S_slice_n (n := r) DL.out ho_; have KD := Aside0.mk kD; have CDD := Aside0.mk CD; replace HRr := Aside0.mk (Kd.N_below HRr.out hb); replace HU := Aside0.mk (HU.out.trans (hb.mono HU.out.size)); clear ho_ hb kD CD))
        | (go_at_call 11; go_loud (with_reducible refine (rank_at (g := g) _ CF.out hCn.out hgs.out.1.2 N16.out (Kd.C_below D15.out HU.out) K15.out r RK.out).mono ?_; rintro e w7 ⟨rfl, hb⟩; replace HRr := Aside0.mk (Kd.N_below HRr.out hb); replace CDD := Aside0.mk (Kd.C_below CDD.out hb); replace HU := Aside0.mk (HU.out.trans (hb.mono HU.out.size)); clear hb)))
      go_wp2_with (go_at_call 12; go_loud (with_reducible refine (rankB_at _ B Ab cb CF.out hgs.out.1.1 (by rw [← DE.out]; exact HBi.out.step HU.out) r RK.out).mono ?_; rintro e w8 ⟨rfl, rfl⟩))
      clear r1 r5 r6
      go_loopg [27] r (fun kq v27 w' => ∃ i : Nat, v27 = .int .i64 (i : Int) ∧ Aside0 (kq + i = r) ∧ Aside0 (Below w8.heap.size w8 w'))
      case atStart => exact ⟨0, rfl, ⟨by omega⟩, ⟨Below.refl _ _⟩⟩
      case round =>
        obtain ⟨i, rfl, HI, HV⟩ := hrel
        by_cases hi : i < r
        · have p1 : (i : Int) < (r : Int) := Int.ofNat_lt.2 hi
          have r1 : decide ((i : Int) < (r : Int)) = true := decide_eq_true p1
          have r4 := eq_true (Int.natCast_nonneg i)
          have r5 := eq_true p1
          have r6 := eq_true hi
          have hnx := bas_next i (by have := RG.out.1; have := hgs.out; omega)
          have hiD := Aside0.mk (show i < D.length from by rw [DL.out]; exact hi)
          obtain ⟨ad, Ai, ci, e1, hx1, hl1, hi1⟩ := at_R CDD.out (i : Int) (Int.natCast_nonneg i) (by rw [DL.out]; exact p1)
          have er : rdR D (i : Int) = D.getD i [] := by unfold rdR; rw [Int.toNat_natCast]
          rw [er] at hx1 hl1 hi1
          rw [Int.toNat_natCast] at hx1
          obtain ⟨gb, A1, c1, AP, cP, hA, x1, x2, k1, k2, f1, f2⟩ := pairs_row HRr.out DF.out hsy.out hiD.out
          have ld := Aside0.mk (getD_fits DF.out hiD.out)
          obtain ⟨d1, hd1⟩ : ∃ d1, d1 = D.getD i [] := ⟨_, rfl⟩
          rw [← hd1] at hx1 hl1 hi1 f1 f2 ld
          rw [ld.out.1] at hx1
          have hp := Aside0.mk (payL_spec hsy.out d1)
          have FC := Aside0.mk (comb_pay hsy.out hgs.out.2.2 (by have := hgs.out; have := hsl.out; omega) (by have := hgs.out; have := hsl.out; omega) (r := d1) (by rw [ld.out.1, hsl.out]) ld.out.2)
          obtain ⟨py, hpy⟩ : ∃ py, py = payL s sy d1 := ⟨_, rfl⟩
          rw [← hpy] at f2 hp FC
          have hx1 := (HV.out.cell (World.block_lt_of_cell? _ _ hx1)).trans hx1
          have x1 := (HV.out.cell (World.block_lt_of_cell? _ _ x1)).trans x1
          have x2 := (HV.out.cell (World.block_lt_of_cell? _ _ x2)).trans x2
          have X0 := Aside0.mk hx1
          have X1 := Aside0.mk x1
          have X2 := Aside0.mk x2
          have HAi := Aside0.mk (Kd.C_below hi1 HV.out)
          have KAi := Aside0.mk hl1
          have HA1 := Aside0.mk (Kd.C_below (Kd.F_now f1) HV.out)
          have HA2 := Aside0.mk (Kd.C_below (Kd.F_now f2) HV.out)
          have HS1 := Aside0.mk (Kd.C_below HSy.out (HU.out.trans (HV.out.mono HU.out.size)))
          subst e1
          subst hA
          clear p1 hi er hl1 hi1 k1 k2 f1 f2 hd1 hpy
          cases gk with
          | zero => exact absurd HI.out (by have := hiD.out; have := DL.out; omega)
          | succ kk1 =>
          go_upto_region 27 with (go_at_call 13; go_loud (with_reducible refine (comb_at g AS cS sy Ai ci d1 py _ hsl.out ld.out.1 HS1.out CSy.out HAi.out KAi.out FC.out).mono ?_; rintro e w9 ⟨v_, rfl, hR_, hb⟩; obtain ⟨Ap, cp, rfl, hlp, hfp⟩ := new_F hR_; have LP := Aside0.mk hlp; have FP := Aside0.mk (Kd.F_now hfp); have HB9 := Aside0.mk hb; clear hR_ hb hlp hfp hx1 x1 x2; replace HV := Aside0.mk (HV.out.trans (HB9.out.mono HV.out.size))))
          have y0 := (HB9.out.cell (World.block_lt_of_cell? _ _ X0.out)).trans X0.out
          have y1 := (HB9.out.cell (World.block_lt_of_cell? _ _ X1.out)).trans X1.out
          have y2 := (HB9.out.cell (World.block_lt_of_cell? _ _ X2.out)).trans X2.out
          have hcv1 : ∀ m_, (convert 22 9 (.slice A1 g c1)).run Try.prog (w9.drewN m_) = .ok (.string (strOfNums d1)) (w9.drewN m_) := fun m_ => Kd.C_string (P := Try.prog) (A := A1) (c := c1) Try.underlying22 Try.underlying5 Try.underlying9 (by have h := Kd.C_drewN (Kd.C_below HA1.out HB9.out) m_; rw [ld.out.1] at h; exact h)
          have hcv2 : ∀ m_, (convert 22 9 (.slice Ai g ci)).run Try.prog (w9.drewN m_) = .ok (.string (strOfNums d1)) (w9.drewN m_) := fun m_ => Kd.C_string (P := Try.prog) (A := Ai) (c := ci) Try.underlying22 Try.underlying5 Try.underlying9 (by have h := Kd.C_drewN (Kd.C_below HAi.out HB9.out) m_; rw [ld.out.1] at h; exact h)
          have hcv3 : ∀ m_, (convert 22 9 (.slice AP s cP)).run Try.prog (w9.drewN m_) = .ok (.string (strOfNums py)) (w9.drewN m_) := fun m_ => Kd.C_string (P := Try.prog) (A := AP) (c := cP) Try.underlying22 Try.underlying5 Try.underlying9 (by have h := Kd.C_drewN (Kd.C_below HA2.out HB9.out) m_; rw [hp.out.1] at h; exact h)
          have hcv4 : ∀ m_, (convert 22 9 (.slice Ap py.length cp)).run Try.prog (w9.drewN m_) = .ok (.string (strOfNums py)) (w9.drewN m_) := fun m_ => Kd.C_string (P := Try.prog) (A := Ap) (c := cp) Try.underlying22 Try.underlying5 Try.underlying9 (Kd.C_drewN FP.out m_)
          go_quiet (fail)
          replace HV := Aside0.mk (HV.out.trans (pw_below_drewN (Below.refl w9.heap.size w9) nq |>.mono HV.out.size))
          clear y0 y1 y2 hcv1 hcv2 hcv3 hcv4
          go_wp2
          go_roundg kk1
          case measure => omega
          case rel => exact ⟨i + 1, by first | rfl | rw [hnx], ⟨by have := HI.out; omega⟩, HV⟩
        · have p1 : ¬ (i : Int) < (r : Int) := fun h => hi (Int.ofNat_lt.1 h)
          have r1 : decide ((i : Int) < (r : Int)) = false := decide_eq_false p1
          have r5 := eq_false p1
          have r6 := eq_false hi
          replace HU := Aside0.mk (HU.out.trans (HV.out.mono HU.out.size))
          have HXX := Aside0.mk (Kd.C_below Hk.out HU.out)
          obtain ⟨row, hrow⟩ : ∃ row, row = filled ask g := ⟨_, rfl⟩
          have RL := Aside0.mk (show row.length = g from by rw [hrow]; exact filled_length ask g)
          have RB := Aside0.mk (show areB row from by rw [hrow]; exact filled_B KB.out g)
          have HROW := Aside0.mk (show ask.take (min ask.length g) ++ (List.replicate g (0 : Int)).drop (min ask.length g) = row from hrow.symm)
          obtain ⟨b_, hb_⟩ : ∃ b_, b_ = hasB C row := ⟨_, rfl⟩
          have HBQ := Aside0.mk hb_.symm
          have infoS := Aside0.mk infoS_
          clear hrow hb_ p1 hi HI HV
          go_upto_region 35 with (first
            | ((with_reducible refine gate_dst (N := 194) rfl ?_); go_loud (refine Kd.R_make (Kd.int .u8) (w0 := wr) wr.heap.size 5 rfl (N := 194) rfl 22 _ _ rfl (g : Int) rfl rfl Try.underlying22 (.int .u8 0) 1 infoT5 rfl (by decide) (by decide) 0 (ok := fun _ => True) (okp := fun _ => True) rfl (fun _ h => h) trivial (by omega) (by have := hgs.out; rw [Int.toNat_natCast]; omega) (Below.refl _ _) (Nat.le_refl _) ?_; intro v2 wm hR2 hb2 _ _; rw [Int.toNat_natCast] at hR2; obtain ⟨Ac, cc, hv2⟩ := Kd.R_slice hR2; rw [List.length_replicate] at hv2; subst hv2; have HR2 := Aside0.mk hR2; have HB2 := Aside0.mk hb2; clear hR2 hb2))
            | ((with_reducible refine gate_builtin (b := .copy) (xs := #[.tmp 195, .tmp 196]) rfl ?_); go_loud (refine Kd.R_copy (enc := Value.int .u8) (0 : Int) (w0 := wr) wr.heap.size rfl (.tmp 195) (.tmp 196) 22 22 5 rfl Try.underlying22 infoS.out (.slice Ac g cc) (List.replicate g (0 : Int)) ask A3 ask.length c3 (fun _ => True) rfl rfl HR2.out (Kd.C_below HXX.out HB2.out) HB2.out HB2.out.size ?_; intro wc hR3 hb3 _; rw [List.length_replicate, HROW.out] at hR3; have Hrow := Aside0.mk (show Kd.C (Kd.int .u8) wc Ac row.length row from (Kd.R_reads' hR3).2.2); have Crow := Aside0.mk (show g ≤ cc from (Kd.R_reads' hR3).2.1); replace HU := Aside0.mk (HU.out.trans (hb3.mono HU.out.size)); clear hR3 hb3 HXX HR2))
            | (go_at_call 7; go_loud (with_reducible refine (has_at (g := g) _ CF.out hCn.out RL.out RB.out hgs.out.1.2 N16.out (Kd.C_below D15.out HU.out) K15.out Hrow.out Crow.out b_ HBQ.out).mono ?_; rintro e w12 ⟨rfl, hb⟩; replace Hrow := Aside0.mk (Kd.C_below Hrow.out hb); replace HU := Aside0.mk (HU.out.trans (hb.mono HU.out.size)); clear hb))
            | (go_at_call 14; go_loud (with_reducible refine (con_at (sy := sy) (s := s) _ B Ab cb CF.out CL.out hsy.out hgs.out.1 hgs.out.2 (by rw [← DE.out]; exact HBi.out.step HU.out) row RL.out RB.out Hrow.out Crow.out b_ HBQ.out).mono ?_; rintro e w13 ⟨rfl, hb⟩; replace HU := Aside0.mk (HU.out.trans (hb.mono HU.out.size)); clear hb)))
          have HBD := Aside0.mk (show BasisIs w13 B g s Ab cb (pairs s sy (redRows C g)) from by rw [← DE.out]; exact HBi.out.step HU.out)
          clear r1 r5 r6
          by_cases hrg : r = g
          · have RKG := Aside0.mk (show rk g (vecs C) = g from RK.out.trans hrg)
            have s1 : decide ((r : Int) = (g : Int)) = true := decide_eq_true (by rw [hrg])
            have s2 : ((r : Int) = (g : Int)) = True := eq_true (by rw [hrg])
            have s3 := eq_true hrg
            have s4 : ((r : Int) == (g : Int)) = true := by rw [hrg]; exact beq_self_eq_true _
            have HMG := Aside0.mk (show m = g from by have := RG.out.2; omega)
            clear hrg
            go_upto_region 41 with (go_at_call 15; go_loud (with_reducible refine (solve_at _ B Ab cb CF.out CL.out hsy.out hsl.out hgs.out.1 hgs.out.2 HBD.out RKG.out).mono ?_; rintro e w14 ⟨v_, rfl, ho_, hb⟩; obtain ⟨AV, cV, rfl, kV, CV⟩ := N_slice_n (n := g) hsl.out ho_; have KV := Aside0.mk kV; have VV := Aside0.mk CV; replace HU := Aside0.mk (HU.out.trans (hb.mono HU.out.size)); clear ho_ hb kV CV))
            go_wp2
            clear s1 s2 s3 s4
            have HWL := Aside0.mk (HW.out.trans (HU.out.mono HW.out.size))
            have E15 := Aside0.mk (Kd.C_below D15.out HU.out)
            have E16 := Aside0.mk (Kd.C_below D16.out HU.out)
            have ESy := Aside0.mk (Kd.C_below HSy.out HU.out)
            go_loopg [36, 37, 35] n (fun kq v36 v37 v35 w' => ∃ (i q : Nat), v36 = .int .i64 (i : Int) ∧ v37 = .int .i64 (q : Int) ∧ Aside0 (kq + i = n) ∧ Aside0 (rk g (vecs (C.take i)) = q) ∧ Aside0 (Kd.N rowK 22 w' w14.heap.size (fun _ => True) v35 (newTo C i)) ∧ Aside0 (Below w14.heap.size w14 w'))
            case atStart => exact ⟨0, 0, rfl, rfl, ⟨by omega⟩, ⟨by have h := (newTo_spec CF.out 0 (Nat.zero_le _)).2.2; exact h.symm⟩, ⟨Kd.N_nil _ _ _ _ _⟩, ⟨Below.refl _ _⟩⟩
            case round =>
              obtain ⟨i, q, rfl, rfl, HI, HQ, HN, HV⟩ := hrel
              have HQL0 := Aside0.mk (show (newTo C i).length = q from by rw [← HQ.out]; exact (newTo_spec CF.out i (by have := HI.out; have := hCn.out; omega)).2.2)
              obtain ⟨A35, c35, rfl, k35, C35⟩ := N_slice_n (n := q) HQL0.out HN.out
              by_cases hi : i < n
              · have p1 : (i : Int) < (n : Int) := Int.ofNat_lt.2 hi
                have r1 : decide ((i : Int) < (n : Int)) = true := decide_eq_true p1
                have r4 := eq_true (Int.natCast_nonneg i)
                have r5 := eq_true p1
                have r6 := eq_true hi
                by_cases hqg : q < g
                · have r7 : decide ((q : Int) < (g : Int)) = true := decide_eq_true (Int.ofNat_lt.2 hqg)
                  have r8 := eq_true (Int.ofNat_lt.2 hqg)
                  have r9 := eq_true hqg
                  have hnx := bas_next i (by have := N16.out; omega)
                  have hiC := Aside0.mk (show i < C.length from by rw [hCn.out]; exact hi)
                  have HTK := Aside0.mk (Kd.C_take (m := i + 1) E15.out (by have := hiC.out; omega))
                  have TL1 := Aside0.mk (show (C.take (i + 1)).length = i + 1 from by have := hiC.out; rw [List.length_take]; omega)
                  have KTK := Aside0.mk (show (C.take (i + 1)).length ≤ c15 from by have := K15.out; have := hiC.out; rw [TL1.out]; omega)
                  have I17 := Aside0.mk (show i + 1 ≤ 16 from by have := N16.out; omega)
                  obtain ⟨info, hinfo, hi2⟩ := Option.map_eq_some_iff.1 infoRows
                  have hcut1 := cut_to (P := Try.prog) 24 22 .i64 Try.underlying24 hinfo A15 n c15 ((i + 1 : Nat) : Int) (Int.natCast_nonneg _) (Int.ofNat_le.2 hi) (by have := K15.out; have := hCn.out; omega)
                  rw [Int.toNat_natCast] at hcut1
                  have hcut2 := hcut1
                  rw [Int.natCast_succ] at hcut2
                  obtain ⟨ad, Ai, ci, e1, hx1, hl1, hi1⟩ := at_R E15.out (i : Int) (Int.natCast_nonneg i) (by rw [hCn.out]; exact p1)
                  have er : rdR C (i : Int) = C.getD i [] := by unfold rdR; rw [Int.toNat_natCast]
                  rw [er] at hx1 hl1 hi1
                  rw [Int.toNat_natCast] at hx1
                  have ld := Aside0.mk (getD_fits CF.out hiC.out)
                  obtain ⟨d1, hd1⟩ : ∃ d1, d1 = C.getD i [] := ⟨_, rfl⟩
                  rw [← hd1] at hx1 hl1 hi1 ld
                  rw [ld.out.1] at hx1
                  have HD1 := Aside0.mk hd1
                  have X0 := Aside0.mk hx1
                  have hx1 := (HV.out.cell (World.block_lt_of_cell? _ _ hx1)).trans hx1
                  have KAi := Aside0.mk (show g ≤ ci from by rw [← ld.out.1]; exact hl1)
                  have HAi := Aside0.mk hi1
                  subst e1
                  clear p1 hi er hl1 hi1 hd1 hi2 hqg k35 C35
                  cases gk with
                  | zero => exact absurd HI.out (by have := hiC.out; have := hCn.out; omega)
                  | succ kk1 =>
                  cases hq : isIn C i with
                  | true =>
                    have HQQ := Aside0.mk hq
                    have HQ2 := Aside0.mk (show rk g (vecs (C.take (i + 1))) = q from by rw [rk_next CF.out hiC.out, hq, if_pos rfl, HQ.out])
                    have t1 : decide ((q : Int) > (q : Int)) = false := decide_eq_false (by omega)
                    clear hq
                    go_wp2_with (go_at_call 11; go_loud (with_reducible refine (rank_at (g := g) _ (take_fits CF.out (i + 1)) TL1.out hgs.out.1.2 I17.out (Kd.C_below HTK.out HV.out) KTK.out q HQ2.out).mono ?_; rintro e w15 ⟨rfl, hb⟩; replace HN := Aside0.mk (Kd.N_below HN.out hb); replace HV := Aside0.mk (HV.out.trans (hb.mono HV.out.size)); clear hb))
                    go_roundg kk1
                    case measure => omega
                    case rel => exact ⟨i + 1, q, by first | rfl | rw [hnx], rfl, ⟨by have := HI.out; omega⟩, HQ2, ⟨by show Kd.N _ _ _ _ _ _ (if isIn C i = true then newTo C i else newTo C i ++ [C.getD i []]); rw [HQQ.out, if_pos rfl]; exact HN.out⟩, HV⟩
                  | false =>
                    have HQQ := Aside0.mk hq
                    obtain ⟨q2, hq2⟩ : ∃ q2, q2 = q + 1 := ⟨_, rfl⟩
                    have HQ2 := Aside0.mk (show rk g (vecs (C.take (i + 1))) = q2 from by rw [rk_next CF.out hiC.out, hq, if_neg (by decide), HQ.out, hq2])
                    have t1 : decide ((q : Int) < (q2 : Int)) = true := decide_eq_true (by omega)
                    have t2 : ((q : Int) < (q2 : Int)) = True := eq_true (by omega)
                    have t3 : (q < q2) = True := eq_true (by omega)
                    have t4 : decide (q < q2) = true := decide_eq_true (by omega)
                    have t5 : decide ((q2 : Int) > (q : Int)) = true := decide_eq_true (by omega)
                    have HNX := Aside0.mk (show newTo C i ++ [d1] = newTo C (i + 1) from by show _ = (if isIn C i = true then newTo C i else newTo C i ++ [C.getD i []]); rw [hq, if_neg (by decide), HD1.out])
                    have LE3 := Aside0.mk (show ((newTo C i).length + 1) * 24 ≤ 140737488355328 from by have := newTo_le CF.out (Nat.le_of_lt hiC.out); have := hgs.out; omega)
                    clear hq hq2
                    go_wp2_with (first
                      | (go_at_call 11; go_loud (with_reducible refine (rank_at (g := g) _ (take_fits CF.out (i + 1)) TL1.out hgs.out.1.2 I17.out (Kd.C_below HTK.out HV.out) KTK.out q2 HQ2.out).mono ?_; rintro e w15 ⟨rfl, hb⟩; clear hx1; replace HN := Aside0.mk (Kd.N_below HN.out hb); replace HV := Aside0.mk (HV.out.trans (hb.mono HV.out.size)); have hx1 := (HV.out.cell (World.block_lt_of_cell? _ _ X0.out)).trans X0.out; have HD := Aside0.mk (Kd.N_lt HN.out); clear hb))
                      | ((with_reducible refine gate_dst (N := 262) rfl ?_); (try (refine gate_guard (by rfl) ?_; dsimp only)); go_loud (refine Kd.N_lit rowK (w0 := w15) w15.heap.size 22 ?hg (N' := 262) ?hd (xs := [d1]) (inner := [.slice Ai g ci]) (ok := fun j => j < w14.heap.size ∨ w15.heap.size ≤ j) (okp := fun j => j < w14.heap.size) ?hr (Reps.one (show Kd.FK rowK _ _ d1 [.slice Ai g ci] from FK_row_n ld.out.1 KAi.out (Kd.F_below (Kd.C_F (Kd.heap_int _) HAi.out) HV.out)) (Reps.none _ _)) (fun _ h => Or.inl h) (Or.inr (Nat.le_refl _)) (Below.refl _ _) (Nat.le_refl _) (by simp) ?_; (case hd => rfl); (case hg => rfl); (case hr => first | (go_simp; done) | (go_simp; rfl)); intro v_ w16 ho_ hb _ _; obtain ⟨AL, cL, rfl⟩ := Kd.N_slice ho_; have HFL := Aside0.mk (Kd.N_F ho_); clear hx1; replace HN := Aside0.mk (Kd.N_below HN.out hb); replace HV := Aside0.mk (HV.out.trans (hb.mono HV.out.size)); clear ho_ hb))
                      | ((with_reducible refine gate_builtin (b := .append) (xs := #[.tmp 257, .tmp 262]) rfl ?_); at_builtin; go_loud (refine Kd.N_append_rows rowK (w0 := w14) w14.heap.size rfl (.tmp 257) (.tmp 262) 24 22 (.slice none 0 0) 24 rfl Try.underlying24 infoRows rfl (show 0 < 1 by decide) (by decide) (.slice A35 q c35) (newTo C i) [d1] AL 1 cL (fun _ => True) (fun j => j < w14.heap.size ∨ w15.heap.size ≤ j) rfl rfl HN.out HFL.out (fun j hj => ⟨trivial, fun e => by rcases hj with hj | hj; (have := Kd.N_base HN.out j e.symm; omega); (have := HD.out j e.symm; omega)⟩) (fun _ _ => trivial) HV.out HV.out.size (by exact LE3.out) ?_; intro v17_ w17 hN4 hb4 _ _; rw [HNX.out] at hN4; replace HN := Aside0.mk hN4; replace HV := Aside0.mk hb4; clear hN4 hb4 HFL HD)))
                    go_roundg kk1
                    case measure => omega
                    case rel => exact ⟨i + 1, q2, by first | rfl | rw [hnx], rfl, ⟨by have := HI.out; omega⟩, HQ2, HN, HV⟩
                · have r7 : decide ((q : Int) < (g : Int)) = false := decide_eq_false (fun h => hqg (Int.ofNat_lt.1 h))
                  have r8 : ((q : Int) < (g : Int)) = False := eq_false (fun h => hqg (Int.ofNat_lt.1 h))
                  have r9 := eq_false hqg
                  have SQ := Aside0.mk (show newTo C i = newTo C C.length from by
                    have h1 := newTo_stop CF.out (i := i) (by have := newTo_le CF.out (i := i) (by have := hCn.out; omega); have := HQL0.out; omega) (C.length - i) (by have := hCn.out; omega)
                    rw [show i + (C.length - i) = C.length from by have := hCn.out; omega] at h1
                    exact h1.symm)
                  rw [SQ.out] at C35 k35
                  have K35 := Aside0.mk k35
                  have E35 := Aside0.mk C35
                  have HQL := Aside0.mk (show (newTo C C.length).length = q from by rw [← SQ.out]; exact HQL0.out)
                  obtain ⟨Y, y1, y2, y3, y4⟩ := solved_inverse hsy.out hsl.out (by have := hgs.out; omega) hgs.out.1.2 hgs.out.2.2 CF.out RKG.out
                  have Y1 := Aside0.mk y1
                  have Y3 := Aside0.mk y3
                  have Y4 := Aside0.mk y4
                  have M16 := Aside0.mk (show ((newTo C C.length).map (payL s sy)).length = m from by rw [List.length_map, HM.out])
                  replace E16 := Aside0.mk (Kd.C_below E16.out HV.out)
                  replace ESy := Aside0.mk (Kd.C_below ESy.out HV.out)
                  replace VV := Aside0.mk (Kd.C_below VV.out HV.out)
                  replace HWL := Aside0.mk (HWL.out.trans (HV.out.mono HWL.out.size))
                  clear y1 y2 y3 y4 k35 C35 hi HI HV
                  go_wp2_with (first
                    | (go_at_call 16; go_loud (with_reducible refine (inv_at _ HQL.out Y1.out E35.out K35.out).mono ?_; rintro e w20 ⟨v_, rfl, ho_, hb⟩; obtain ⟨AY, cY, rfl, kY, CY⟩ := S_slice_n (n := g) Y3.out ho_; have KY := Aside0.mk kY; have EY := Aside0.mk CY; replace E16 := Aside0.mk (Kd.C_below E16.out hb); replace ESy := Aside0.mk (Kd.C_below ESy.out hb); replace VV := Aside0.mk (Kd.C_below VV.out hb); replace HWL := Aside0.mk (HWL.out.trans (hb.mono HWL.out.size)); clear ho_ hb kY CY))
                    | (go_at_call 17; go_loud (with_reducible refine (mul_at _ Y3.out M16.out Y4.out EY.out KY.out E16.out K16.out).mono ?_; rintro e w21 ⟨v_, rfl, ho_, hb⟩; obtain ⟨AZ, cZ, rfl, kZ, CZ⟩ := S_slice_n (n := g) hsl.out ho_; have KZ := Aside0.mk kZ; have EZ := Aside0.mk CZ; replace ESy := Aside0.mk (Kd.C_below ESy.out hb); replace VV := Aside0.mk (Kd.C_below VV.out hb); replace HWL := Aside0.mk (HWL.out.trans (hb.mono HWL.out.size)); clear ho_ hb kZ CZ))
                    | (go_at_call 18; with_reducible refine (same_at (s := s) _ hsl.out hsl.out hsy.out hsy.out (by have := hgs.out; omega) rfl EZ.out KZ.out VV.out KV.out).mono ?_; rintro e w22 ⟨rfl, hb⟩; replace ESy := Aside0.mk (Kd.C_below ESy.out hb); replace VV := Aside0.mk (Kd.C_below VV.out hb); replace HWL := Aside0.mk (HWL.out.trans (hb.mono HWL.out.size)); clear EZ hb)
                    | (go_at_call 18; go_loud (with_reducible refine (same_at (s := s) _ hsl.out hsl.out hsy.out hsy.out (by have := hgs.out; omega) rfl VV.out KV.out ESy.out CSy.out).mono ?_; rintro e w23 ⟨rfl, hb⟩; replace HWL := Aside0.mk (HWL.out.trans (hb.mono HWL.out.size)); clear hb)))
                  go_ret
                  exact ⟨rfl, HWL.out⟩
              · have r1 : decide ((i : Int) < (n : Int)) = false := decide_eq_false (fun h => hi (Int.ofNat_lt.1 h))
                have r5 : ((i : Int) < (n : Int)) = False := eq_false (fun h => hi (Int.ofNat_lt.1 h))
                have r6 := eq_false hi
                have SQ := Aside0.mk (show newTo C i = newTo C C.length from by rw [show i = C.length from by have := HI.out; have := hCn.out; omega])
                rw [SQ.out] at C35 k35
                have K35 := Aside0.mk k35
                have E35 := Aside0.mk C35
                have HQL := Aside0.mk (show (newTo C C.length).length = q from by rw [← SQ.out]; exact HQL0.out)
                obtain ⟨Y, y1, y2, y3, y4⟩ := solved_inverse hsy.out hsl.out (by have := hgs.out; omega) hgs.out.1.2 hgs.out.2.2 CF.out RKG.out
                have Y1 := Aside0.mk y1
                have Y3 := Aside0.mk y3
                have Y4 := Aside0.mk y4
                have M16 := Aside0.mk (show ((newTo C C.length).map (payL s sy)).length = m from by rw [List.length_map, HM.out])
                replace E16 := Aside0.mk (Kd.C_below E16.out HV.out)
                replace ESy := Aside0.mk (Kd.C_below ESy.out HV.out)
                replace VV := Aside0.mk (Kd.C_below VV.out HV.out)
                replace HWL := Aside0.mk (HWL.out.trans (HV.out.mono HWL.out.size))
                clear y1 y2 y3 y4 k35 C35 hi HI HV
                go_wp2_with (first
                  | (go_at_call 16; go_loud (with_reducible refine (inv_at _ HQL.out Y1.out E35.out K35.out).mono ?_; rintro e w20 ⟨v_, rfl, ho_, hb⟩; obtain ⟨AY, cY, rfl, kY, CY⟩ := S_slice_n (n := g) Y3.out ho_; have KY := Aside0.mk kY; have EY := Aside0.mk CY; replace E16 := Aside0.mk (Kd.C_below E16.out hb); replace ESy := Aside0.mk (Kd.C_below ESy.out hb); replace VV := Aside0.mk (Kd.C_below VV.out hb); replace HWL := Aside0.mk (HWL.out.trans (hb.mono HWL.out.size)); clear ho_ hb kY CY))
                  | (go_at_call 17; go_loud (with_reducible refine (mul_at _ Y3.out M16.out Y4.out EY.out KY.out E16.out K16.out).mono ?_; rintro e w21 ⟨v_, rfl, ho_, hb⟩; obtain ⟨AZ, cZ, rfl, kZ, CZ⟩ := S_slice_n (n := g) hsl.out ho_; have KZ := Aside0.mk kZ; have EZ := Aside0.mk CZ; replace ESy := Aside0.mk (Kd.C_below ESy.out hb); replace VV := Aside0.mk (Kd.C_below VV.out hb); replace HWL := Aside0.mk (HWL.out.trans (hb.mono HWL.out.size)); clear ho_ hb kZ CZ))
                  | (go_at_call 18; with_reducible refine (same_at (s := s) _ hsl.out hsl.out hsy.out hsy.out (by have := hgs.out; omega) rfl EZ.out KZ.out VV.out KV.out).mono ?_; rintro e w22 ⟨rfl, hb⟩; replace ESy := Aside0.mk (Kd.C_below ESy.out hb); replace VV := Aside0.mk (Kd.C_below VV.out hb); replace HWL := Aside0.mk (HWL.out.trans (hb.mono HWL.out.size)); clear EZ hb)
                  | (go_at_call 18; go_loud (with_reducible refine (same_at (s := s) _ hsl.out hsl.out hsy.out hsy.out (by have := hgs.out; omega) rfl VV.out KV.out ESy.out CSy.out).mono ?_; rintro e w23 ⟨rfl, hb⟩; replace HWL := Aside0.mk (HWL.out.trans (hb.mono HWL.out.size)); clear hb)))
                go_ret
                exact ⟨rfl, HWL.out⟩
          · have s1 : decide ((r : Int) = (g : Int)) = false := decide_eq_false (fun h => hrg (by omega))
            have s2 : ((r : Int) = (g : Int)) = False := eq_false (fun h => hrg (by omega))
            have s3 := eq_false hrg
            have s4 : ((r : Int) == (g : Int)) = false := beq_eq_false_iff_ne.2 (fun h => hrg (by omega))
            have RKG := Aside0.mk (show rk g (vecs C) < g from by have := RG.out.1; have := RK.out; omega)
            clear hrg
            go_wp2_with (go_at_call 15; go_loud (with_reducible refine (solveErr_at _ B Ab cb CF.out hgs.out.1.1 HBD.out RKG.out).mono ?_; rintro e w14 ⟨rfl, hb⟩; replace HU := Aside0.mk (HU.out.trans (hb.mono HU.out.size)); clear hb))
            go_ret
            exact ⟨rfl, HW.out.trans (HU.out.mono HW.out.size)⟩
end Go.Proofs.Ytpfaaljmefgpbaa.Plain
end
