/- QTB, part 18: HBasE HBasF. -/
import Derived.Test.YtpfaaljmefgpbaaQTB17
import Derived.BigQuiet

section
set_option linter.unusedVariables false
set_option linter.unusedSimpArgs false
namespace Go.Proofs.Ytpfaaljmefgpbaa.Hand
open Go.RowKit Go.Proofs.YtpfaaljmefgpbaaW.PrintWords Go.Proofs.YtpfaaljmefgpbaaW.PrintLast Go.Proofs.YtpfaaljmefgpbaaW.PrintMore
theorem isZ_at (A0 : Option Addr) (c0 : Nat) (l0 : List Int) (b : Bool) (w : World) (hr0 : Kd.C (Kd.int .u8) w A0 l0.length l0) (hc0 : l0.length ≤ c0) (hl : l0.length < 9223372036854775807) (h : (l0.all fun z => z == 0) = b) :
    Calls Try.prog 22 #[.slice A0 l0.length c0] w fun e w' => e = .returned (.bool b) ∧ Below w.heap.size w w' := by
  rw [← h]
  exact (isZero_calls A0 c0 l0 w hr0 hc0 hl).mono fun e w' ⟨h1, h2⟩ => ⟨h1, drawn_below h2⟩
set_option maxHeartbeats 4000000 in
set_option maxRecDepth 100000 in
theorem insOld_calls (W : World) (B : Nat) (A : Option Addr) (c : Nat) (R : List (List Int × List Int)) (A1 : Option Addr) (c1 : Nat) (a1 : List Int) (A2 : Option Addr) (c2 : Nat) (a2 : List Int) (H : Aside0 (BasisIs W B a1.length a2.length A c R)) (HR : Aside0 (RowsOk a1.length a2.length R)) (hg : Aside0 (0 < a1.length ∧ a1.length < 1000 ∧ a2.length < 1000)) (hRl : Aside0 (R.length < 1000))
    (H1 : Aside0 (Kd.C (Kd.int .u8) W A1 a1.length a1)) (C1 : Aside0 (a1.length ≤ c1)) (H2 : Aside0 (Kd.C (Kd.int .u8) W A2 a2.length a2)) (C2 : Aside0 (a2.length ≤ c2)) (L1 : Aside0 (areB a1)) (L2 : Aside0 (areB a2)) (HZ : Aside0 (((redP R (a1, a2) R.length).1.all fun z => z == 0) = true)) :
    Calls Try.prog 8 #[.pointer (some ⟨B, 0, none⟩), .agg #[.slice A1 a1.length c1, .slice A2 a2.length c2]] W fun e w' => e = .returned (.tuple #[.bool false, .int .i64 0]) ∧ Below W.heap.size W w' := by
  go_enter Try.func8, Try.ntmps8
  go_upto_region 1 with fail
  have HW := Aside0.mk (show Below W.heap.size W (W.alloc (.cells #[.slice A1 a1.length c1, .slice A2 a2.length c2] 35)) from below_alloc (Below.refl _ _) _)
  have K1 := Aside0.mk (alloc_at W #[.slice A1 a1.length c1, .slice A2 a2.length c2] 35 rfl)
  replace H1 := Aside0.mk (Kd.C_below H1.out HW.out)
  replace H2 := Aside0.mk (Kd.C_below H2.out HW.out)
  generalize W.alloc (.cells #[.slice A1 a1.length c1, .slice A2 a2.length c2] 35) = w1 at HW K1 H1 H2 ⊢
  go_upto_region 3 with (go_at_call 23; with_reducible refine (madeB_calls w1 B a1.length a2.length A c R (H.out.step HW.out) hg.out.1).mono ?_; rintro e w2 ⟨rfl, rfl⟩)
  have x0 := (H.out.step HW.out).c0
  have x1 := (H.out.step HW.out).c1
  have b0 := box0 K1.out
  have b1 := box1 K1.out
  go_quiet (fail)
  have hb := pw_below_drewN (Below.refl w2.heap.size w2) nq
  clear x0 x1 b0 b1
  replace H1 := Aside0.mk (Kd.C_below H1.out hb)
  replace H2 := Aside0.mk (Kd.C_below H2.out hb)
  replace K1 := box_step K1 hb
  replace HW := Aside0.mk (HW.out.trans (hb.mono HW.out.size))
  clear hb
  generalize w2.drewN nq = w3 at H1 H2 K1 HW ⊢
  have b0 := box0 K1.out
  have b1 := box1 K1.out
  have N3 := Aside0.mk (WorkIs.heap_lt' K1.out)
  go_upto_region 6 with (first
    | (go_at_call 25; with_reducible refine (own_calls A1 c1 a1 A2 c2 a2 _ H1 C1 H2 C2 ⟨by have := hg.out; omega⟩ ⟨by have := hg.out; omega⟩).mono ?_; rintro e w4 ⟨A5, c5, A6, c6, rfl, hl5, hl6, hf5, hf6, hb⟩; have L5 := Aside0.mk hl5; have L6 := Aside0.mk hl6; have F5 := Aside0.mk (Kd.F_mono hf5 (ok' := fun j => W.heap.size < j) (fun j hj => by have := N3.out; omega)); have F6 := Aside0.mk (Kd.F_mono hf6 (ok' := fun j => W.heap.size < j) (fun j hj => by have := N3.out; omega)); replace K1 := box_step K1 hb; replace HW := Aside0.mk (HW.out.trans (hb.mono HW.out.size)); clear hl5 hl6 hf5 hf6 hb b0 b1)
    | (go_at_call 24; with_reducible refine (redB_calls _ B a1.length a2.length A c R ⟨H.out.step HW.out⟩ a1.length a2.length HR hg.out.2.1 hg.out.2.2 hRl (fun j => W.heap.size < j) A5 c5 a1 A6 c6 a2 F5 L5 F6 L6 ⟨rfl, L1.out⟩ ⟨rfl, L2.out⟩).mono ?_; rintro e w5 ⟨A7, c7, A8, c8, rfl, hl7, hl8, hf7, hf8, hb⟩; have L7 := Aside0.mk hl7; have L8 := Aside0.mk hl8; have N4 := Aside0.mk (WorkIs.heap_lt' K1.out); have F7 := Aside0.mk (Kd.F_mono hf7 (ok' := fun j => W.heap.size < j) (fun j hj => by have := N4.out; omega)); have F8 := Aside0.mk (Kd.F_mono hf8 (ok' := fun j => W.heap.size < j) (fun j hj => by have := N4.out; omega)); replace K1 := box_step K1 hb; replace HW := Aside0.mk (HW.out.trans (hb.mono HW.out.size)); clear hl7 hl8 hf7 hf8 hb F5 F6; have b0 := box0 K1.out; have b1 := box1 K1.out; have z0 := boxF K1.out 0; have z1 := boxF K1.out 1))
  clear b0 b1 z0 z1
  obtain ⟨q, hq⟩ : ∃ q, q = redP R (a1, a2) R.length := ⟨_, rfl⟩
  have HQ := Aside0.mk hq
  rw [← hq] at L7 L8 F7 F8 HZ ⊢
  have QO := Aside0.mk (redP_ok HR.out (r := (a1, a2)) ⟨rfl, L1.out⟩ ⟨rfl, L2.out⟩ R.length (Nat.le_refl _))
  rw [← hq] at QO
  clear hq
  have QL := Aside0.mk (show q.1.length < 9223372036854775807 from by have := QO.out.1.1; have := hg.out; omega)
  have hfar : ∀ j, W.heap.size < j → j ≠ W.heap.size := fun j hj => by omega
  replace F7 := Aside0.mk (Kd.F_far (Kd.F_far F7.out (p := ⟨W.heap.size, 0, none⟩) hfar (.slice A7 q.1.length c7)) (p := ⟨W.heap.size, 1, none⟩) hfar (.slice A8 q.2.length c8))
  replace F8 := Aside0.mk (Kd.F_far (Kd.F_far F8.out (p := ⟨W.heap.size, 0, none⟩) hfar (.slice A7 q.1.length c7)) (p := ⟨W.heap.size, 1, none⟩) hfar (.slice A8 q.2.length c8))
  replace K1 := Aside0.mk (box_set (u' := .slice A7 q.1.length c7) (v' := .slice A8 q.2.length c8) K1.out)
  replace HW := Aside0.mk ((HW.out.setCell (p := ⟨W.heap.size, 0, none⟩) (Nat.le_refl _) (.slice A7 q.1.length c7)).setCell (p := ⟨W.heap.size, 1, none⟩) (Nat.le_refl _) (.slice A8 q.2.length c8))
  generalize ((w5.setCell ⟨W.heap.size, 0, none⟩ (.slice A7 q.1.length c7)).setCell ⟨W.heap.size, 1, none⟩ (.slice A8 q.2.length c8)) = w6 at F7 F8 K1 HW ⊢
  have b0 := box0 K1.out
  go_wp2_with (go_at_call 22; with_reducible refine (isZ_at A7 c7 q.1 true _ (Kd.F_now F7.out) L7.out QL.out HZ.out).mono ?_; rintro e w7 ⟨rfl, hb⟩; replace HW := Aside0.mk (HW.out.trans (hb.mono HW.out.size)); clear hb b0)
  go_ret2
  exact ⟨rfl, HW.out⟩
end Go.Proofs.Ytpfaaljmefgpbaa.Hand
end

section
set_option linter.unusedVariables false
set_option linter.unusedSimpArgs false
namespace Go.Proofs.Ytpfaaljmefgpbaa.Hand
open Go.RowKit Go.Proofs.YtpfaaljmefgpbaaW.PrintWords Go.Proofs.YtpfaaljmefgpbaaW.PrintLast Go.Proofs.YtpfaaljmefgpbaaW.PrintMore
theorem brN_row {W : World} {base g cap : Nat} {ok : Nat → Prop} {L : List (List Int × List Int)} (h : Kd.N brK 35 W base ok (.slice (some ⟨g, 0, none⟩) L.length cap) L) {i : Nat} (hi : i < L.length) :
    ∃ (A1 : Option Addr) (c1 : Nat) (A2 : Option Addr) (c2 : Nat), W.cell? ⟨g, i * 2, none⟩ = some (.slice A1 L[i].1.length c1) ∧ W.cell? ⟨g, i * 2 + 1, none⟩ = some (.slice A2 L[i].2.length c2) ∧ W.frozen? ⟨g, i * 2, none⟩ = false ∧ W.frozen? ⟨g, i * 2 + 1, none⟩ = false ∧ L[i].1.length ≤ c1 ∧ L[i].2.length ≤ c2 ∧ Kd.F (Kd.int .u8) W (fun k => ok k ∧ k ≠ g) A1 L[i].1.length L[i].1 ∧ Kd.F (Kd.int .u8) W (fun k => ok k ∧ k ≠ g) A2 L[i].2.length L[i].2 := by
  obtain ⟨inner, ⟨hl, ho⟩, hf⟩ := N_inner h
  rcases ho with ⟨-, h0⟩ | ⟨g', cap', cur, e1, hb, hg, hn, hm, hs, hin⟩
  · omega
  injection e1 with e1 _ _
  injection e1 with e1
  injection e1 with e1 _ _
  subst e1
  have hx := hf i L[i] (List.getElem?_eq_getElem hi)
  obtain ⟨A1, c1, A2, c2, he, k1, k2, f1, f2⟩ := br_open hx
  have hmo : ∀ k, (ok k ∧ some k ≠ (Value.slice (some ⟨g, 0, none⟩) L.length cap).ownBlock) → ok k ∧ k ≠ g := fun k hk => ⟨hk.1, fun e => hk.2 (by rw [e]; rfl)⟩
  have hc : ∀ j v, ((inner.drop (i * 2)).take 2)[j]? = some v → cur[i * 2 + j]? = some v := fun j v hj => by
    rw [List.getElem?_take] at hj
    split at hj
    · rw [List.getElem?_drop, ← hin, List.getElem?_take] at hj
      split at hj
      · rwa [Array.getElem?_toList] at hj
      · cases hj
    · cases hj
  refine ⟨A1, c1, A2, c2, ?_, ?_, froz_of hg _, froz_of hg _, k1, k2, Kd.F_mono f1 hmo, Kd.F_mono f2 hmo⟩
  · rw [cell_of hg]; exact hc 0 _ (by rw [he]; rfl)
  · rw [cell_of hg]; exact hc 1 _ (by rw [he]; rfl)
theorem brN_put {W : World} {base g cap : Nat} {ok : Nat → Prop} {L : List (List Int × List Int)} (h : Kd.N brK 35 W base ok (.slice (some ⟨g, 0, none⟩) L.length cap) L) {i : Nat} (hi : i < L.length) {x : List Int × List Int} {A1 A2 : Option Addr} {c1 c2 : Nat} (h1 : x.1.length ≤ c1) (f1 : Kd.F (Kd.int .u8) W (fun k => ok k ∧ k ≠ g) A1 x.1.length x.1) (h2 : x.2.length ≤ c2) (f2 : Kd.F (Kd.int .u8) W (fun k => ok k ∧ k ≠ g) A2 x.2.length x.2) :
    Kd.N brK 35 ((W.setCell ⟨g, i * 2, none⟩ (.slice A1 x.1.length c1)).setCell ⟨g, i * 2 + 1, none⟩ (.slice A2 x.2.length c2)) base ok (.slice (some ⟨g, 0, none⟩) (L.set i x).length cap) (L.set i x) := by
  obtain ⟨B1, d1, B2, d2, y0, y1, -, -, -, -, -, -⟩ := brN_row h hi
  obtain ⟨h2', h3⟩ := Kd.N_seg h (i : Int) (by omega) (by omega) (c := [.slice B1 L[i].1.length d1, .slice B2 L[i].2.length d2]) (seg := [.slice A1 x.1.length c1, .slice A2 x.2.length c2]) (j := 0) (x' := x) (okp := fun k => ok k ∧ k ≠ g) rfl
    (fun j u hu => by
      rw [Int.toNat_natCast, show brK.sz = 2 from rfl]
      match j, hu with
      | 0, hu => injection hu with hu; subst hu; exact y0
      | 1, hu => injection hu with hu; subst hu; exact y1
      | j + 2, hu => simp at hu) (Nat.le_refl 2)
    (show Kd.FK brK W _ x [.slice A1 x.1.length c1, .slice A2 x.2.length c2] from br_mk h1 f1 h2 f2) (fun k hk => hk)
  have e : W.setCells g ((i : Int).toNat * brK.sz + 0) [.slice A1 x.1.length c1, .slice A2 x.2.length c2] = (W.setCell ⟨g, i * 2, none⟩ (.slice A1 x.1.length c1)).setCell ⟨g, i * 2 + 1, none⟩ (.slice A2 x.2.length c2) := by
    rw [Int.toNat_natCast, show brK.sz = 2 from rfl]
    rfl
  rw [e, Int.toNat_natCast] at h2'
  rw [List.length_set]
  exact h2'
end Go.Proofs.Ytpfaaljmefgpbaa.Hand
end
