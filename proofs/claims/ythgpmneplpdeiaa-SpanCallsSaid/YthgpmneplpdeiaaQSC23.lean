/- QSC, part 23: HRefRed HRefRank PT0 PT1. -/
import Derived.Test.YthgpmneplpdeiaaQSC1
import Derived.Test.YthgpmneplpdeiaaQSC2
import Derived.Test.YthgpmneplpdeiaaQSC3
import Derived.Test.YthgpmneplpdeiaaQSC4
import Derived.Test.YthgpmneplpdeiaaQSC5
import Derived.Test.YthgpmneplpdeiaaQSC8
import Derived.Test.YthgpmneplpdeiaaQSC9
import Derived.Test.YthgpmneplpdeiaaQSC18
import Derived.Test.YthgpmneplpdeiaaQSC22
import Derived.Test.YthgpmneplpdeiaaProg
import Derived.Below
import Derived.Deep.Draws
import Derived.Deep.AppendLies
import Derived.Maps.AppendAt
import Derived.OwnWalk
import Derived.Laws.BytesArg
import Derived.Laws.MakeOwn
import Derived.Laws.OwnMore
import Derived.Deep.OwnRows
import Derived.Tactics
import Derived.Lib.ConvBytes
import Derived.Laws.Slices
import Derived.WalkKit
import Derived.KernelRfl
import Derived.RowKit3
import Derived.Deep.LoopGhost
import Derived.Deep.QuietTactic
import Derived.BigQuiet
import Derived.WideLaws
import Derived.Deep.DeepCutAuto
import Derived.Deep.CutBlock
import Derived.Deep.RegionHeld3
import Derived.Laws.Rows
import Derived.Lib.AppendStr
import Derived.ArgAppend
import Derived.Laws.IdiomCopy
import Derived.OrdersHeld
import Derived.Laws.BitsLemmas
import Derived.RowKit

section
set_option linter.unusedVariables false
set_option linter.unusedSimpArgs false
namespace Go.Proofs.Ythgpmneplpdeiaa.Plain
open Go.Proofs.Ythgpmneplpdeiaa.Hand Go.Proofs.Ythgpmneplpdeiaa.GF Go.Proofs.Ythgpmneplpdeiaa.LA Go.RowKit Go.Proofs.Ythgpmneplpdeiaa.P Go.Proofs.YthgpmneplpdeiaaW.PrintWords Go.Proofs.YthgpmneplpdeiaaW.PrintLast Go.Proofs.YthgpmneplpdeiaaW.PrintMore
def misR (l : List (List Int)) : Bool := l.any fun x => (x.length : Int) != ((rdR l 0).length : Int)
theorem rd_L1R (l : List (List Int)) (i : Int) : rd_L1 l i = rdR l i := rfl
theorem ref_size_loop (L : List (List Int)) (h : L.length < 1000) (hp : 0 < L.length) (d : Nat) : ∀ (i k : Nat), i + d = L.length → d < k →
    braidworkref06_Size.l0 k L i = some (if ((L.drop i).any fun x => (x.length : Int) != ((rdR L 0).length : Int)) = true then (0, 0, 21) else ((L.length : Int), ((rdR L 0).length : Int), 0)) := by
  induction d with
  | zero =>
    intro i k hi hk
    obtain ⟨k, rfl⟩ : ∃ m, k = m + 1 := ⟨k - 1, by omega⟩
    simp only [braidworkref06_Size.l0]
    rw [if_neg (by omega), if_pos (by omega), List.drop_of_length_le (by omega), rd_L1R]
    simp
  | succ d ih =>
    intro i k hi hk
    obtain ⟨k, rfl⟩ : ∃ m, k = m + 1 := ⟨k - 1, by omega⟩
    have hil : i < L.length := by omega
    have hrd : rd_L1 L (i : Int) = L[i] := by rw [rd_L1R]; unfold rdR; rw [Int.toNat_natCast, List.getD_eq_getElem?_getD, List.getElem?_eq_getElem hil, Option.getD_some]
    simp only [braidworkref06_Size.l0]
    rw [if_pos (by omega), if_pos (by omega), if_pos (by omega), hrd, rd_L1R, List.drop_eq_getElem_cons hil, List.any_cons]
    by_cases e : (L[i].length : Int) = ((rdR L 0).length : Int)
    · have e2 : ((L[i].length : Int) != ((rdR L 0).length : Int)) = false := by simp; omega
      rw [if_pos e, e2, Bool.false_or, show wrap64 ((i : Int) + 1) = ((i + 1 : Nat) : Int) from by unfold wrap64; omega]
      exact ih (i + 1) k (by omega) (by omega)
    · have e2 : ((L[i].length : Int) != ((rdR L 0).length : Int)) = true := by simp; omega
      rw [if_neg e, e2, Bool.true_or, if_pos rfl]
theorem ref_size (L : List (List Int)) (h : L.length < 1000) : braidworkref06_Size.f 2000 L = some (if misR L = true then (0, 0, 21) else ((L.length : Int), ((rdR L 0).length : Int), 0)) := by
  unfold braidworkref06_Size.f
  by_cases hp : 0 < L.length
  · rw [if_neg (by omega)]
    have := ref_size_loop L h hp L.length 0 2000 (by omega) (by omega)
    rw [List.drop_zero] at this
    exact this
  · have e := List.length_eq_zero_iff.1 (show L.length = 0 by omega)
    subst e
    rfl
theorem fits_misR {n : Nat} {L : List (List Int)} (h : Fits n L) : misR L = false := any_len h
theorem fits_ofR {l : List (List Int)} (h : misR l = false) (hb : ∀ x ∈ l, areB x) : Fits (rdR l 0).length l := fun r hr => ⟨by have := List.any_eq_false.1 h r hr; simp at this; omega, hb r hr⟩
theorem lead_atR {n : Nat} {l : List (List Int)} (hl : Fits n l) : ∃ P : Nat → Nat, Fits n (redRows l n) ∧ (redRows l n).length ≤ l.length ∧ ∀ i, i < (redRows l n).length → P i < n ∧ leadN ((redRows l n).getD i []) = ((P i : Nat) : Int) := by
  obtain ⟨p, h1, h2, h3, h4⟩ := redRows_spec hl
  exact ⟨fun i => p.getD i 0, h3, h4, fun i hi => ⟨(red_lead h3 h1 hi).1, (red_lead h3 h1 hi).2.1⟩⟩
theorem redRows_nilR (n : Nat) : redRows [] n = [] := by unfold redRows; rw [redTo_nil]; rfl
theorem insert_calls {n : Nat} {L : List (List Int)} (hL : Fits n L) (hl : L.length < 1000) (hn : n < 1000) (A0 : Option Addr) (c0 : Nat) (R : List (List Int)) (hR : R = redRows L n) (A1 : Option Addr) (c1 : Nat) (r : List Int) (hr : r.length = n ∧ areB r) (w : World) (Hl : Kd.C rowK w A0 R.length R) (Cl : R.length ≤ c0) (Hv : Kd.C (Kd.int .u8) w A1 r.length r) (Cv : r.length ≤ c1) (R' : List (List Int)) (hR' : R' = redRows (L ++ [r]) n) :
    Calls Try.prog 60 #[.slice A0 R.length c0, .slice A1 r.length c1] w fun e w' => ∃ (A : Option Addr) (c : Nat), e = .returned (.slice A R'.length c) ∧ R'.length ≤ c ∧ Kd.C rowK w' A R'.length R' ∧ Below w.heap.size w w' := by
  obtain ⟨P, k1, k2, k3⟩ := lead_atR hL
  rw [← hR] at k1 k2 k3
  have := ins_walk A0 c0 R A1 c1 r w ⟨Hl⟩ ⟨Cl⟩ ⟨Hv⟩ ⟨Cv⟩ n P ⟨k1⟩ ⟨hr⟩ ⟨hn, by omega⟩ ⟨k3⟩
  rw [hR, ins_eq hL hr, ← hR', ← hR] at this
  exact this
set_option maxHeartbeats 4000000 in
set_option maxRecDepth 100000 in
theorem refReduce_walk (A0 : Option Addr) (c0 : Nat) (L : List (List Int)) (w : World) (Hl : Aside0 (Kd.C rowK w A0 L.length L)) (Cl : Aside0 (L.length ≤ c0)) (n : Nat) (LF : Aside0 (Fits n L)) (K6 : Aside0 (n < 1000 ∧ L.length < 1000)) (R : List (List Int)) (HRr : Aside0 (R = redRows L n)) (a b : Int) (FS : Aside0 (braidworkref06_Size.f 2000 L = some (a, b, 0))) :
    Calls Try.prog 40 #[.slice A0 L.length c0] w fun e w' => ∃ (A : Option Addr) (c : Nat), e = .returned (.tuple #[.slice A R.length c, .int .i64 0]) ∧ R.length ≤ c ∧ Kd.C rowK w' A R.length R ∧ Below w.heap.size w w' := by
  go_enter Try.func40, Try.ntmps40
  go_wp2_with (go_at_call 59; with_reducible refine (braidworkref06_Size.calls 2000 A0 c0 L a b 0 _ Hl.out Cl.out FS.out).mono ?_; rintro e w1 ⟨rfl, hd⟩; have hb := drawn_below hd; have HB := Aside0.mk hb; clear hd hb)
  go_loopg [8, 7] L.length (fun kq v8 v7 w' => ∃ (i : Nat) (A : Option Addr) (c : Nat) (S : List (List Int)), v8 = .int .i64 (i : Int) ∧ v7 = .slice A S.length c ∧ Aside0 (S = redRows (L.take i) n) ∧ Aside0 (kq + i = L.length) ∧ Aside0 (S.length ≤ c) ∧ Aside0 (Kd.C rowK w' A S.length S) ∧ Aside0 (Below w.heap.size w w'))
  case atStart => exact ⟨0, none, 0, [], rfl, rfl, ⟨by rw [List.take_zero, redRows_nilR]⟩, ⟨by omega⟩, ⟨Nat.le_refl _⟩, ⟨Kd.C_nil _ _⟩, HB⟩
  case round =>
    clear HB
    obtain ⟨i, A, c, S, rfl, rfl, HS, HI, HC, HA, HW⟩ := hrel
    by_cases hi : i < L.length
    · have p0 : (0 : Int) ≤ (i : Int) := Int.natCast_nonneg _
      have p1 : (i : Int) < (L.length : Int) := Int.ofNat_lt.2 hi
      have q1 : decide ((i : Int) < (L.length : Int)) = true := decide_eq_true p1
      obtain ⟨bd, Bk, ck, e2, hx2, hl2, hi2⟩ := at_R Hl.out (i : Int) p0 p1
      cases e2
      have er : rdR L (i : Int) = L.getD i [] := by unfold rdR; rw [Int.toNat_natCast]
      rw [er] at hx2 hl2 hi2
      rw [Int.toNat_natCast] at hx2
      replace hx2 := (HW.out.cell (World.block_lt_of_cell? _ _ hx2)).trans hx2
      have hy := Kd.C_below hi2 HW.out
      have ry := getD_fits LF.out hi
      have hnk := snext i (by have := K6.out; omega)
      obtain ⟨S2, hS2⟩ : ∃ S2, S2 = redRows (L.take (i + 1)) n := ⟨_, rfl⟩
      have ht : L.take (i + 1) = L.take i ++ [L.getD i []] := by rw [List.take_add_one, List.getElem?_eq_getElem hi, Option.toList_some, List.getD_eq_getElem?_getD, List.getElem?_eq_getElem hi, Option.getD_some]
      have HIN := Aside0.mk (insert_calls (n := n) (L := L.take i) (fun x hx => LF.out x (List.mem_of_mem_take hx)) (by rw [List.length_take]; have := K6.out; omega) K6.out.1 A c S HS.out Bk ck (L.getD i []) ry wr HA.out HC.out hy hl2 S2 (by rw [hS2, ht]))
      have HS2 := Aside0.mk hS2
      have q4 := eq_true p0
      have q5 := eq_true p1
      have q6 := eq_true hi
      have Hi := Aside0.mk hi
      clear p0 p1 hi er hi2 hl2 ry hy ht hS2
      generalize L.getD i [] = y at *
      cases gk with
      | zero => exact absurd HI.out (by have := Hi.out; omega)
      | succ k2 =>
      go_wp2_with (go_at_call 60; with_reducible refine HIN.out.mono ?_; rintro e w6 ⟨An, cn, rfl, hcn, hCn, hb⟩; have Hn := Aside0.mk hCn; have Cn := Aside0.mk hcn; replace HW := Aside0.mk (HW.out.trans (hb.mono HW.out.size)); clear hcn hCn hb)
      go_roundg k2
      case measure => omega
      case rel => exact ⟨i + 1, An, cn, S2, by first | rfl | rw [hnk], rfl, HS2, ⟨by have := HI.out; omega⟩, Cn, Hn, HW⟩
    · have q1 : decide ((i : Int) < (L.length : Int)) = false := decide_eq_false (by omega)
      have q2 : decide (i < L.length) = false := decide_eq_false hi
      have q3 := eq_false hi
      have ei : i = L.length := by have := HI.out; omega
      have HE := Aside0.mk (show R = S from by rw [HRr.out, HS.out, ei, List.take_length])
      clear hi HI ei
      go_wp2
      go_ret2
      exact ⟨A, c, by rw [HE.out]; rfl, by rw [HE.out]; exact HC.out, by rw [HE.out]; exact HA.out, HW.out⟩
set_option maxHeartbeats 2000000 in
set_option maxRecDepth 100000 in
theorem refReduce_err (A0 : Option Addr) (c0 : Nat) (L : List (List Int)) (w : World) (Hl : Aside0 (Kd.C rowK w A0 L.length L)) (Cl : Aside0 (L.length ≤ c0)) (a b : Int) (FS : Aside0 (braidworkref06_Size.f 2000 L = some (a, b, 21))) :
    Calls Try.prog 40 #[.slice A0 L.length c0] w fun e w' => e = .returned (.tuple #[.slice none 0 0, .int .i64 21]) ∧ Below w.heap.size w w' := by
  go_enter Try.func40, Try.ntmps40
  go_wp2_with (go_at_call 59; with_reducible refine (braidworkref06_Size.calls 2000 A0 c0 L a b 21 _ Hl.out Cl.out FS.out).mono ?_; rintro e w1 ⟨rfl, hd⟩; have hb := drawn_below hd; have HB := Aside0.mk hb; clear hd hb)
  go_ret2
  exact ⟨rfl, HB.out⟩
def redF (L : List (List Int)) : List (List Int) × Int := if misR L = true then ([], 21) else (redRows L (rdR L 0).length, 0)
theorem refReduce_calls (A0 : Option Addr) (c0 : Nat) (L : List (List Int)) (w : World) (Hl : Kd.C rowK w A0 L.length L) (Cl : L.length ≤ c0) (hB : ∀ x ∈ L, areB x) (hl : L.length < 1000) (hn : (rdR L 0).length < 1000) (R : List (List Int)) (e0 : Int) (hR : redF L = (R, e0)) :
    Calls Try.prog 40 #[.slice A0 L.length c0] w fun e w' => ∃ (A : Option Addr) (c : Nat), e = .returned (.tuple #[.slice A R.length c, .int .i64 e0]) ∧ R.length ≤ c ∧ Kd.C rowK w' A R.length R ∧ Below w.heap.size w w' := by
  have hs := ref_size L hl
  unfold redF at hR
  by_cases hm : misR L = true
  · rw [if_pos hm] at hs hR
    simp only [Prod.mk.injEq] at hR
    obtain ⟨rfl, rfl⟩ := hR
    exact (refReduce_err A0 c0 L w ⟨Hl⟩ ⟨Cl⟩ 0 0 ⟨hs⟩).mono fun e w' ⟨h1, h2⟩ => ⟨none, 0, h1, Nat.le_refl _, Kd.C_nil _ _, h2⟩
  · rw [if_neg hm] at hs hR
    simp only [Prod.mk.injEq] at hR
    obtain ⟨rfl, rfl⟩ := hR
    exact refReduce_walk A0 c0 L w ⟨Hl⟩ ⟨Cl⟩ _ ⟨fits_ofR (Bool.eq_false_iff.2 hm) hB⟩ ⟨hn, hl⟩ _ ⟨rfl⟩ _ _ ⟨hs⟩
set_option maxHeartbeats 2000000 in
set_option maxRecDepth 100000 in
theorem refRank_calls (A0 : Option Addr) (c0 : Nat) (L : List (List Int)) (w : World) (Hl : Kd.C rowK w A0 L.length L) (Cl : L.length ≤ c0) (hB : ∀ x ∈ L, areB x) (hl : L.length < 1000) (hn : (rdR L 0).length < 1000) (R : List (List Int)) (e0 : Int) (hR : redF L = (R, e0)) :
    Calls Try.prog 37 #[.slice A0 L.length c0] w fun e w' => e = .returned (.tuple #[.int .i64 (R.length : Int), .int .i64 e0]) ∧ Below w.heap.size w w' := by
  have HR := Aside0.mk (refReduce_calls A0 c0 L w Hl Cl hB hl hn R e0 hR)
  clear Hl Cl hB hl hn hR
  go_enter Try.func37, Try.ntmps37
  go_wp2_with (go_at_call 40; with_reducible refine HR.out.mono ?_; rintro e w1 ⟨A, c, rfl, hc, hC, hb⟩)
  go_ret2
  exact ⟨rfl, hb⟩
end Go.Proofs.Ythgpmneplpdeiaa.Plain
end

section
namespace Go.Proofs.Ythgpmneplpdeiaa.Hand
open Go.Proofs.Ythgpmneplpdeiaa.Plain Go.Proofs.Ythgpmneplpdeiaa.GF Go.Proofs.Ythgpmneplpdeiaa.LA Go.RowKit Go.Proofs.Ythgpmneplpdeiaa.P Go.Proofs.YthgpmneplpdeiaaW.PrintWords Go.Proofs.YthgpmneplpdeiaaW.PrintLast
def braidworkref06_Rank.f (l0 : List (List Int)) : Option (Int × Int) := if (∀ x ∈ l0, areB x) ∧ l0.length < 1000 ∧ (rdR l0 0).length < 1000 then some (((redF l0).1.length : Int), (redF l0).2) else none
theorem braidworkref06_Rank.calls (A0 : Option Addr) (c0 : Nat) (l0 : List (List Int)) (r1 r2 : Int) (w : World) (hr0 : Kd.C (Kd.slice 5 (Kd.int .u8)) w A0 l0.length l0) (hc0 : l0.length ≤ c0) (h : braidworkref06_Rank.f l0 = some (r1, r2)) :
    Calls Try.prog 37 #[.slice A0 l0.length c0] w fun e w' => e = .returned (.tuple #[.int .i64 r1, .int .i64 r2]) ∧ Below w.heap.size w w' := by
  unfold braidworkref06_Rank.f at h
  by_cases c : (∀ x ∈ l0, areB x) ∧ l0.length < 1000 ∧ (rdR l0 0).length < 1000
  · rw [if_pos c] at h
    simp only [Option.some.injEq, Prod.mk.injEq] at h
    obtain ⟨rfl, rfl⟩ := h
    exact refRank_calls A0 c0 l0 w hr0 hc0 c.1 c.2.1 c.2.2 (redF l0).1 (redF l0).2 rfl
  · rw [if_neg c] at h
    cases h
def braidworkref06_Reduce.f (l0 : List (List Int)) : Option (List (List Int) × Int) := if (∀ x ∈ l0, areB x) ∧ l0.length < 1000 ∧ (rdR l0 0).length < 1000 then some (redF l0) else none
theorem braidworkref06_Reduce.calls (A0 : Option Addr) (c0 : Nat) (l0 : List (List Int)) (r1 : List (List Int)) (r2 : Int) (w : World) (hr0 : Kd.C (Kd.slice 5 (Kd.int .u8)) w A0 l0.length l0) (hc0 : l0.length ≤ c0) (h : braidworkref06_Reduce.f l0 = some (r1, r2)) :
    Calls Try.prog 40 #[.slice A0 l0.length c0] w fun e w' => ∃ v0_ : Value, e = .returned (.tuple #[v0_, .int .i64 r2]) ∧ Kd.V (Kd.slice 5 (Kd.int .u8)) 23 w' w.heap.size (fun k_ => k_ < w'.heap.size) v0_ r1 ∧ Below w.heap.size w w' := by
  unfold braidworkref06_Reduce.f at h
  by_cases c : (∀ x ∈ l0, areB x) ∧ l0.length < 1000 ∧ (rdR l0 0).length < 1000
  · rw [if_pos c] at h
    simp only [Option.some.injEq] at h
    refine (refReduce_calls A0 c0 l0 w hr0 hc0 c.1 c.2.1 c.2.2 r1 r2 h).mono ?_
    rintro e w' ⟨A, cc, rfl, h1, h2, h3⟩
    exact ⟨_, rfl, Kd.V_lower ⟨A, cc, rfl, h1, Kd.C_F (Kd.heap_slice _ (Kd.heap_int _)) h2⟩ h3.size, h3⟩
  · rw [if_neg c] at h
    cases h
end Go.Proofs.Ythgpmneplpdeiaa.Hand
end

section
namespace Go.Proofs.Ythgpmneplpdeiaa.PT
open Go.Proofs.Ythgpmneplpdeiaa.Hand Go.Proofs.Ythgpmneplpdeiaa.P Go.RowKit Go.Proofs.YthgpmneplpdeiaaW.PrintWords Go.Proofs.YthgpmneplpdeiaaW.PrintLast Go.Proofs.YthgpmneplpdeiaaW.PrintMore
attribute [local go_sem] max2_int min2_int max_two min_two max_three min_three max_four min_four   -- for this text's walks alone
set_option linter.unusedVariables false
set_option linter.unusedSimpArgs false
def errW : Option Int → Value
  | none => .nilIface
  | some c => .iface 0 (.int .i64 c)
theorem errW_none : errW none = .nilIface := rfl
theorem errW_some (c : Int) : errW (some c) = .iface 0 (.int .i64 c) := rfl
theorem info3 : (Try.prog.info? 3).map (fun i => (i.zero, i.size, i.bytes)) = some (some (.int .i64 0), 1, 8) := by kernel_rfl
theorem info5 : (Try.prog.info? 5).map (fun i => (i.zero, i.size, i.bytes)) = some (some (.int .u8 0), 1, 1) := by kernel_rfl
theorem info23 : (Try.prog.info? 23).map (fun i => (i.zero, i.size, i.bytes)) = some (some (.slice none 0 0), 1, 24) := by kernel_rfl
-- the values' own types
def rd_L1 (xs : List (List Int)) (i : Int) : (List Int) := xs.getD i.toNat ([] : List Int)
theorem at_L1 {w : World} {A : Option Addr} {n : Nat} {xs : List (List Int)} (h : Kd.C (Kd.slice 5 (Kd.int .u8)) w A n xs) (i : Int) (h0 : 0 ≤ i) (h1 : i < n) : ∃ ad A0 c0, A = some ad ∧ w.cell? (ad.add i.toNat) = some (.slice A0 (rd_L1 xs i).length c0) ∧ (rd_L1 xs i).length ≤ c0 ∧ (Kd.int .u8).C w A0 (rd_L1 xs i).length (rd_L1 xs i) := by
  obtain ⟨ad, c, e, _, hK, hc0⟩ := Kd.C_get h ([] : List Int) i h0 h1
  have hc : ∀ j u, c[j]? = some u → w.cell? (ad.add (i.toNat * 1 + j)) = some u := hc0
  obtain ⟨A0, c0, rfl, l0, g0⟩ := hK
  exact ⟨ad, A0, c0, e, by have hq := hc 0 _ rfl; rwa [Nat.mul_one, Nat.add_zero] at hq, l0, g0⟩
end Go.Proofs.Ythgpmneplpdeiaa.PT
end

section
namespace Go.Proofs.Ythgpmneplpdeiaa.PT
open Go.Proofs.Ythgpmneplpdeiaa.Hand Go.Proofs.Ythgpmneplpdeiaa.P Go.RowKit Go.Proofs.YthgpmneplpdeiaaW.PrintWords Go.Proofs.YthgpmneplpdeiaaW.PrintLast Go.Proofs.YthgpmneplpdeiaaW.PrintMore
attribute [local go_sem] max2_int min2_int max_two min_two max_three min_three max_four min_four   -- for this text's walks alone
set_option linter.unusedVariables false
set_option linter.unusedSimpArgs false
def braidworkref08_both.f (l0 : List (List Int)) (l1 : List (List Int)) : Option ((List (List Int))) := if ([] : List (List Int)).length + l0.length < 5864062014805 then ((some (([] : List (List Int)) ++ l0 : List (List Int))).bind fun y101 => (if y101.length + l1.length < 5864062014805 then (some (y101 ++ l1)) else (none))) else (none)
set_option maxHeartbeats 8000000 in
set_option maxRecDepth 100000 in
theorem braidworkref08_both.calls (P0_ : Nat → Prop) (A0 : Option Addr) (c0 : Nat) (l0 : List (List Int)) (P1_ : Nat → Prop) (A1 : Option Addr) (c1 : Nat) (l1 : List (List Int)) (r : List (List Int)) (w : World) (hs0 : Kd.V (Kd.slice 5 (Kd.int .u8)) 23 w w.heap.size (fun k_ => P0_ k_) (.slice A0 l0.length c0) l0) (hs1 : Kd.V (Kd.slice 5 (Kd.int .u8)) 23 w w.heap.size (fun k_ => P1_ k_) (.slice A1 l1.length c1) l1) (h : braidworkref08_both.f l0 l1 = some r) :
    Calls Try.prog 38 #[.slice A0 l0.length c0, .slice A1 l1.length c1] w fun e w' => ∃ v0_ : Value, e = .returned (v0_) ∧ Kd.N (Kd.slice 5 (Kd.int .u8)) 23 w' w.heap.size (fun k_ => ((P0_ k_ ∨ P1_ k_) ∨ w.heap.size ≤ k_)) v0_ r ∧ Below w.heap.size w w' := by
  have HO0 := Aside0.mk (show Kd.V (Kd.slice 5 (Kd.int .u8)) 23 w w.heap.size (fun k_ => ((P0_ k_ ∨ P1_ k_) ∨ w.heap.size ≤ k_)) (.slice A0 l0.length c0) l0 from Kd.V_mono hs0 (fun k_ hk => .inl (.inl hk)))
  have HO1 := Aside0.mk (show Kd.V (Kd.slice 5 (Kd.int .u8)) 23 w w.heap.size (fun k_ => ((P0_ k_ ∨ P1_ k_) ∨ w.heap.size ≤ k_)) (.slice A1 l1.length c1) l1 from Kd.V_mono hs1 (fun k_ hk => .inl (.inr hk)))
  have HB := Aside0.mk (Below.refl w.heap.size w)
  have H : (if ([] : List (List Int)).length + l0.length < 5864062014805 then ((some (([] : List (List Int)) ++ l0 : List (List Int))).bind fun y101 => (if y101.length + l1.length < 5864062014805 then (some (y101 ++ l1)) else (none))) else (none)) = some r := h
  clear h
  by_cases c3 : ([] : List (List Int)).length + l0.length < 5864062014805
  · rw [if_pos c3] at H
    have LMc3 := Aside0.mk c3
    clear c3
    obtain ⟨y101, hy101⟩ : ∃ y_ : List (List Int), y_ = (([] : List (List Int)) ++ l0) := ⟨_, rfl⟩
    replace H : (if y101.length + l1.length < 5864062014805 then (some (y101 ++ l1)) else (none)) = some r := by first | (rw [hy101]; with_reducible exact H) | (have H2_ := (Option.bind_some _ _).symm.trans H; rw [hy101]; with_reducible exact H2_) | (have H2_ := (Option.bind_some _ _).symm.trans H; with_reducible exact H2_) | with_reducible exact H | (rw [hy101]; exact H) | exact H
    have Ny101 := Aside0.mk hy101
    clear hy101
    by_cases c4 : y101.length + l1.length < 5864062014805
    · rw [if_pos c4] at H
      have LMc4 := Aside0.mk c4
      clear c4
      obtain ⟨y104, hy104⟩ : ∃ y_ : List (List Int), y_ = (y101 ++ l1) := ⟨_, rfl⟩
      replace H : (some y104) = some r := by first | (rw [hy104]; with_reducible exact H) | (have H2_ := (Option.bind_some _ _).symm.trans H; rw [hy104]; with_reducible exact H2_) | (have H2_ := (Option.bind_some _ _).symm.trans H; with_reducible exact H2_) | with_reducible exact H | (rw [hy104]; exact H) | exact H
      have Ny104 := Aside0.mk hy104
      clear hy104
      obtain rfl := Option.some.inj H
      go_enter Try.func38, Try.ntmps38
      go_wp2_with (first | ((with_reducible refine gate_builtin (b := .append) (xs := #[.tmp 6, .tmp 7]) rfl ?_); at_builtin; refine Kd.N_append_rows (Kd.slice 5 (Kd.int .u8)) (w0 := w) w.heap.size rfl (.tmp 6) (.tmp 7) 22 23 (.slice none 0 0) 24 rfl Try.underlying22 info23 rfl (by decide) (by omega) (.slice none 0 0) ([] : List (List Int)) l0 _ _ _ (fun k_ => ((P0_ k_ ∨ P1_ k_) ∨ w.heap.size ≤ k_)) (fun k_ => ((fun k_ => ((P0_ k_ ∨ P1_ k_) ∨ w.heap.size ≤ k_))) k_ ∧ some k_ ≠ (.slice none 0 0 : Value).ownBlock) rfl rfl ?aO ?aR (fun _ hk => hk) ?aF ?aB ?aS ?aL ?_; (case aR => exact (by skip; exact Kd.V_F (Kd.V_mono (ok' := (fun k_ => ((fun k_ => ((P0_ k_ ∨ P1_ k_) ∨ w.heap.size ≤ k_))) k_ ∧ some k_ ≠ (.slice none 0 0 : Value).ownBlock)) (HO0.out) (fun k_ hk => ⟨hk, (by simp [Value.ownBlock])⟩)))); (case aB => exact (by repeat (first | (with_reducible first | exact HB.out | apply below_alloc | apply pw_below_drewN | apply below_drew1) | exact HB.out))); (case aF => exact (fun k_ hk => (.inr (Nat.le_trans (below_size (by repeat (first | (with_reducible first | exact HB.out | apply below_alloc | apply pw_below_drewN | apply below_drew1) | exact HB.out))) hk)))); (case aO => exact ((Kd.N_nil _ _ _ _ (fun k_ => ((P0_ k_ ∨ P1_ k_) ∨ w.heap.size ≤ k_))))); (case aS => exact (below_size (by repeat (first | (with_reducible first | exact HB.out | apply below_alloc | apply pw_below_drewN | apply below_drew1) | exact HB.out)))); (case aL => have := LMc3.out; omega); intro v102 w5 ho hb hg hat; rw [← Ny101.out] at ho; have n0_ := Aside0.mk (Kd.V_afterv (Kd.V_apart_nil (by (with_reducible repeat (first | apply Kd.V_alloc | apply Kd.V_drewN | apply Kd.V_drew)); exact HO0.out)) hg hat); have n1_ := Aside0.mk (Kd.V_afterv (Kd.V_apart_nil (by (with_reducible repeat (first | apply Kd.V_alloc | apply Kd.V_drewN | apply Kd.V_drew)); exact HO1.out)) hg hat); have n2_ := Aside0.mk (hb); have n3_ := Aside0.mk (ho); clear HO0; clear HO1; clear HB; have HO0 := n0_; have HO1 := n1_; have HB := n2_; have HO103 := n3_; clear n0_ n1_ n2_ n3_; clear ho hb hg hat) | ((with_reducible refine gate_builtin (b := .append) (xs := #[.tmp 9, .tmp 10]) rfl ?_); at_builtin; refine Kd.N_append_rows (Kd.slice 5 (Kd.int .u8)) (w0 := w) w.heap.size rfl (.tmp 9) (.tmp 10) 22 23 (.slice none 0 0) 24 rfl Try.underlying22 info23 rfl (by decide) (by omega) v102 y101 l1 _ _ _ (fun k_ => ((P0_ k_ ∨ P1_ k_) ∨ w.heap.size ≤ k_)) (fun k_ => ((fun k_ => ((P0_ k_ ∨ P1_ k_) ∨ w.heap.size ≤ k_))) k_ ∧ some k_ ≠ (v102 : Value).ownBlock) rfl rfl ?aO ?aR (fun _ hk => hk) ?aF ?aB ?aS ?aL ?_; (case aR => exact (by skip; exact Kd.V_F (Kd.V_mono (ok' := (fun k_ => ((fun k_ => ((P0_ k_ ∨ P1_ k_) ∨ w.heap.size ≤ k_))) k_ ∧ some k_ ≠ (v102 : Value).ownBlock)) (HO1.out) (fun k_ hk => ⟨hk.1, hk.2⟩)))); (case aB => exact (by repeat (first | (with_reducible first | exact HB.out | apply below_alloc | apply pw_below_drewN | apply below_drew1) | exact HB.out))); (case aF => exact (fun k_ hk => (.inr (Nat.le_trans (below_size (by repeat (first | (with_reducible first | exact HB.out | apply below_alloc | apply pw_below_drewN | apply below_drew1) | exact HB.out))) hk)))); (case aO => exact (by (with_reducible repeat (first | apply Kd.N_alloc | apply Kd.N_drewN | apply Kd.N_drew)); exact HO103.out)); (case aS => exact (below_size (by repeat (first | (with_reducible first | exact HB.out | apply below_alloc | apply pw_below_drewN | apply below_drew1) | exact HB.out)))); (case aL => have := LMc4.out; omega); intro v105 w6 ho hb hg hat; rw [← Ny104.out] at ho; have n0_ := Aside0.mk (Kd.V_afterv (ok := (fun k_ => ((P0_ k_ ∨ P1_ k_) ∨ w.heap.size ≤ k_))) (by (with_reducible repeat (first | apply Kd.V_alloc | apply Kd.V_drewN | apply Kd.V_drew)); exact HO0.out) hg hat); have n1_ := Aside0.mk (Kd.V_afterv (ok := (fun k_ => ((P0_ k_ ∨ P1_ k_) ∨ w.heap.size ≤ k_))) (by (with_reducible repeat (first | apply Kd.V_alloc | apply Kd.V_drewN | apply Kd.V_drew)); exact HO1.out) hg hat); have n2_ := Aside0.mk (hb); have n3_ := Aside0.mk (ho); clear HO0; clear HO1; clear HB; clear HO103; have HO0 := n0_; have HO1 := n1_; have HB := n2_; have HO106 := n3_; clear n0_ n1_ n2_ n3_; clear ho hb hg hat))
      go_ret
      exact ⟨_, by first | rfl | (simp [errW_none, errW_some] <;> rfl) | (simp [*, errW_none, errW_some] <;> rfl), by (with_reducible repeat (first | apply Kd.N_alloc | apply Kd.N_drewN | apply Kd.N_drew)); exact HO106.out, by repeat (first | (with_reducible first | exact HB.out | apply below_alloc | apply pw_below_drewN | apply below_drew1) | exact HB.out)⟩
    · rw [if_neg c4] at H
      exact absurd H (by simp)
  · rw [if_neg c3] at H
    exact absurd H (by simp)

-- by hand: function 40 (braidworkref06_Reduce)
end Go.Proofs.Ythgpmneplpdeiaa.PT
end
