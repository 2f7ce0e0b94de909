/- QMC, part 25: HRefRed HRefInv. -/
import Derived.Test.YthlgmmgdaciinaaQMC19
import Derived.Test.YthlgmmgdaciinaaQMC24

section
set_option linter.unusedVariables false
set_option linter.unusedSimpArgs false
namespace Go.Proofs.Ythlgmmgdaciinaa.Plain
open Go.Proofs.Ythlgmmgdaciinaa.Hand Go.Proofs.Ythlgmmgdaciinaa.GF Go.Proofs.Ythlgmmgdaciinaa.LA Go.RowKit Go.Proofs.Ythlgmmgdaciinaa.P Go.Proofs.YthlgmmgdaciinaaW.PrintWords Go.Proofs.YthlgmmgdaciinaaW.PrintLast Go.Proofs.YthlgmmgdaciinaaW.PrintMore
def misR (l : List (List Int)) : Bool := l.any fun x => (x.length : Int) != ((rdR l 0).length : Int)
theorem rd_L1R (l : List (List Int)) (i : Int) : rd_L1 l i = rdR l i := rfl
theorem ref_size_loop (L : List (List Int)) (h : L.length < 1000) (hp : 0 < L.length) (d : Nat) : ∀ (i k : Nat), i + d = L.length → d < k →
    braidworkref06_Size.l0 k L i = some (if ((L.drop i).any fun x => (x.length : Int) != ((rdR L 0).length : Int)) = true then (0, 0, 21) else ((L.length : Int), ((rdR L 0).length : Int), 0)) := by
  induction d with
  | zero =>
    intro i k hi hk
    obtain ⟨k, rfl⟩ : ∃ m, k = m + 1 := ⟨k - 1, by omega⟩
    simp only [braidworkref06_Size.l0]
    rw [if_neg (by omega), if_pos (by omega), List.drop_of_length_le (by omega), rd_L1R]
    simp
  | succ d ih =>
    intro i k hi hk
    obtain ⟨k, rfl⟩ : ∃ m, k = m + 1 := ⟨k - 1, by omega⟩
    have hil : i < L.length := by omega
    have hrd : rd_L1 L (i : Int) = L[i] := by rw [rd_L1R]; unfold rdR; rw [Int.toNat_natCast, List.getD_eq_getElem?_getD, List.getElem?_eq_getElem hil, Option.getD_some]
    simp only [braidworkref06_Size.l0]
    rw [if_pos (by omega), if_pos (by omega), if_pos (by omega), hrd, rd_L1R, List.drop_eq_getElem_cons hil, List.any_cons]
    by_cases e : (L[i].length : Int) = ((rdR L 0).length : Int)
    · have e2 : ((L[i].length : Int) != ((rdR L 0).length : Int)) = false := by simp; omega
      rw [if_pos e, e2, Bool.false_or, show wrap64 ((i : Int) + 1) = ((i + 1 : Nat) : Int) from by unfold wrap64; omega]
      exact ih (i + 1) k (by omega) (by omega)
    · have e2 : ((L[i].length : Int) != ((rdR L 0).length : Int)) = true := by simp; omega
      rw [if_neg e, e2, Bool.true_or, if_pos rfl]
theorem ref_size (L : List (List Int)) (h : L.length < 1000) : braidworkref06_Size.f 2000 L = some (if misR L = true then (0, 0, 21) else ((L.length : Int), ((rdR L 0).length : Int), 0)) := by
  unfold braidworkref06_Size.f
  by_cases hp : 0 < L.length
  · rw [if_neg (by omega)]
    have := ref_size_loop L h hp L.length 0 2000 (by omega) (by omega)
    rw [List.drop_zero] at this
    exact this
  · have e := List.length_eq_zero_iff.1 (show L.length = 0 by omega)
    subst e
    rfl
theorem fits_ofR {l : List (List Int)} (h : misR l = false) (hb : ∀ x ∈ l, areB x) : Fits (rdR l 0).length l := fun r hr => ⟨by have := List.any_eq_false.1 h r hr; simp at this; omega, hb r hr⟩
theorem lead_atR {n : Nat} {l : List (List Int)} (hl : Fits n l) : ∃ P : Nat → Nat, Fits n (redRows l n) ∧ (redRows l n).length ≤ l.length ∧ ∀ i, i < (redRows l n).length → P i < n ∧ leadN ((redRows l n).getD i []) = ((P i : Nat) : Int) := by
  obtain ⟨p, h1, h2, h3, h4⟩ := redRows_spec hl
  exact ⟨fun i => p.getD i 0, h3, h4, fun i hi => ⟨(red_lead h3 h1 hi).1, (red_lead h3 h1 hi).2.1⟩⟩
theorem redRows_nilR (n : Nat) : redRows [] n = [] := by unfold redRows; rw [redTo_nil]; rfl
theorem insert_calls {n : Nat} {L : List (List Int)} (hL : Fits n L) (hl : L.length < 1000) (hn : n < 1000) (A0 : Option Addr) (c0 : Nat) (R : List (List Int)) (hR : R = redRows L n) (A1 : Option Addr) (c1 : Nat) (r : List Int) (hr : r.length = n ∧ areB r) (w : World) (Hl : Kd.C rowK w A0 R.length R) (Cl : R.length ≤ c0) (Hv : Kd.C (Kd.int .u8) w A1 r.length r) (Cv : r.length ≤ c1) (R' : List (List Int)) (hR' : R' = redRows (L ++ [r]) n) :
    Calls Try.prog 51 #[.slice A0 R.length c0, .slice A1 r.length c1] w fun e w' => ∃ (A : Option Addr) (c : Nat), e = .returned (.slice A R'.length c) ∧ R'.length ≤ c ∧ Kd.C rowK w' A R'.length R' ∧ Below w.heap.size w w' := by
  obtain ⟨P, k1, k2, k3⟩ := lead_atR hL
  rw [← hR] at k1 k2 k3
  have := ins_walk A0 c0 R A1 c1 r w ⟨Hl⟩ ⟨Cl⟩ ⟨Hv⟩ ⟨Cv⟩ n P ⟨k1⟩ ⟨hr⟩ ⟨hn, by omega⟩ ⟨k3⟩
  rw [hR, ins_eq hL hr, ← hR', ← hR] at this
  exact this
set_option maxHeartbeats 4000000 in
set_option maxRecDepth 100000 in
theorem refReduce_walk (A0 : Option Addr) (c0 : Nat) (L : List (List Int)) (w : World) (Hl : Aside0 (Kd.C rowK w A0 L.length L)) (Cl : Aside0 (L.length ≤ c0)) (n : Nat) (LF : Aside0 (Fits n L)) (K6 : Aside0 (n < 1000 ∧ L.length < 1000)) (R : List (List Int)) (HRr : Aside0 (R = redRows L n)) (a b : Int) (FS : Aside0 (braidworkref06_Size.f 2000 L = some (a, b, 0))) :
    Calls Try.prog 31 #[.slice A0 L.length c0] w fun e w' => ∃ (A : Option Addr) (c : Nat), e = .returned (.tuple #[.slice A R.length c, .int .i64 0]) ∧ R.length ≤ c ∧ Kd.C rowK w' A R.length R ∧ Below w.heap.size w w' := by
  go_enter Try.func31, Try.ntmps31
  go_wp2_with (go_at_call 34; with_reducible refine (braidworkref06_Size.calls 2000 A0 c0 L a b 0 _ Hl.out Cl.out FS.out).mono ?_; rintro e w1 ⟨rfl, hd⟩; have hb := drawn_below hd; have HB := Aside0.mk hb; clear hd hb)
  go_loopg [8, 7] L.length (fun kq v8 v7 w' => ∃ (i : Nat) (A : Option Addr) (c : Nat) (S : List (List Int)), v8 = .int .i64 (i : Int) ∧ v7 = .slice A S.length c ∧ Aside0 (S = redRows (L.take i) n) ∧ Aside0 (kq + i = L.length) ∧ Aside0 (S.length ≤ c) ∧ Aside0 (Kd.C rowK w' A S.length S) ∧ Aside0 (Below w.heap.size w w'))
  case atStart => exact ⟨0, none, 0, [], rfl, rfl, ⟨by rw [List.take_zero, redRows_nilR]⟩, ⟨by omega⟩, ⟨Nat.le_refl _⟩, ⟨Kd.C_nil _ _⟩, HB⟩
  case round =>
    clear HB
    obtain ⟨i, A, c, S, rfl, rfl, HS, HI, HC, HA, HW⟩ := hrel
    by_cases hi : i < L.length
    · have p0 : (0 : Int) ≤ (i : Int) := Int.natCast_nonneg _
      have p1 : (i : Int) < (L.length : Int) := Int.ofNat_lt.2 hi
      have q1 : decide ((i : Int) < (L.length : Int)) = true := decide_eq_true p1
      obtain ⟨bd, Bk, ck, e2, hx2, hl2, hi2⟩ := at_R Hl.out (i : Int) p0 p1
      cases e2
      have er : rdR L (i : Int) = L.getD i [] := by unfold rdR; rw [Int.toNat_natCast]
      rw [er] at hx2 hl2 hi2
      rw [Int.toNat_natCast] at hx2
      replace hx2 := (HW.out.cell (World.block_lt_of_cell? _ _ hx2)).trans hx2
      have hy := Kd.C_below hi2 HW.out
      have ry := getD_fits LF.out hi
      have hnk := snext i (by have := K6.out; omega)
      obtain ⟨S2, hS2⟩ : ∃ S2, S2 = redRows (L.take (i + 1)) n := ⟨_, rfl⟩
      have ht : L.take (i + 1) = L.take i ++ [L.getD i []] := by rw [List.take_add_one, List.getElem?_eq_getElem hi, Option.toList_some, List.getD_eq_getElem?_getD, List.getElem?_eq_getElem hi, Option.getD_some]
      have HIN := Aside0.mk (insert_calls (n := n) (L := L.take i) (fun x hx => LF.out x (List.mem_of_mem_take hx)) (by rw [List.length_take]; have := K6.out; omega) K6.out.1 A c S HS.out Bk ck (L.getD i []) ry wr HA.out HC.out hy hl2 S2 (by rw [hS2, ht]))
      have HS2 := Aside0.mk hS2
      have q4 := eq_true p0
      have q5 := eq_true p1
      have q6 := eq_true hi
      have Hi := Aside0.mk hi
      clear p0 p1 hi er hi2 hl2 ry hy ht hS2
      generalize L.getD i [] = y at *
      cases gk with
      | zero => exact absurd HI.out (by have := Hi.out; omega)
      | succ k2 =>
      go_wp2_with (go_at_call 51; with_reducible refine HIN.out.mono ?_; rintro e w6 ⟨An, cn, rfl, hcn, hCn, hb⟩; have Hn := Aside0.mk hCn; have Cn := Aside0.mk hcn; replace HW := Aside0.mk (HW.out.trans (hb.mono HW.out.size)); clear hcn hCn hb)
      go_roundg k2
      case measure => omega
      case rel => exact ⟨i + 1, An, cn, S2, by first | rfl | rw [hnk], rfl, HS2, ⟨by have := HI.out; omega⟩, Cn, Hn, HW⟩
    · have q1 : decide ((i : Int) < (L.length : Int)) = false := decide_eq_false (by omega)
      have q2 : decide (i < L.length) = false := decide_eq_false hi
      have q3 := eq_false hi
      have ei : i = L.length := by have := HI.out; omega
      have HE := Aside0.mk (show R = S from by rw [HRr.out, HS.out, ei, List.take_length])
      clear hi HI ei
      go_wp2
      go_ret2
      exact ⟨A, c, by rw [HE.out]; rfl, by rw [HE.out]; exact HC.out, by rw [HE.out]; exact HA.out, HW.out⟩
set_option maxHeartbeats 2000000 in
set_option maxRecDepth 100000 in
theorem refReduce_err (A0 : Option Addr) (c0 : Nat) (L : List (List Int)) (w : World) (Hl : Aside0 (Kd.C rowK w A0 L.length L)) (Cl : Aside0 (L.length ≤ c0)) (a b : Int) (FS : Aside0 (braidworkref06_Size.f 2000 L = some (a, b, 21))) :
    Calls Try.prog 31 #[.slice A0 L.length c0] w fun e w' => e = .returned (.tuple #[.slice none 0 0, .int .i64 21]) ∧ Below w.heap.size w w' := by
  go_enter Try.func31, Try.ntmps31
  go_wp2_with (go_at_call 34; with_reducible refine (braidworkref06_Size.calls 2000 A0 c0 L a b 21 _ Hl.out Cl.out FS.out).mono ?_; rintro e w1 ⟨rfl, hd⟩; have hb := drawn_below hd; have HB := Aside0.mk hb; clear hd hb)
  go_ret2
  exact ⟨rfl, HB.out⟩
def redF (L : List (List Int)) : List (List Int) × Int := if misR L = true then ([], 21) else (redRows L (rdR L 0).length, 0)
theorem refReduce_calls (A0 : Option Addr) (c0 : Nat) (L : List (List Int)) (w : World) (Hl : Kd.C rowK w A0 L.length L) (Cl : L.length ≤ c0) (hB : ∀ x ∈ L, areB x) (hl : L.length < 1000) (hn : (rdR L 0).length < 1000) (R : List (List Int)) (e0 : Int) (hR : redF L = (R, e0)) :
    Calls Try.prog 31 #[.slice A0 L.length c0] w fun e w' => ∃ (A : Option Addr) (c : Nat), e = .returned (.tuple #[.slice A R.length c, .int .i64 e0]) ∧ R.length ≤ c ∧ Kd.C rowK w' A R.length R ∧ Below w.heap.size w w' := by
  have hs := ref_size L hl
  unfold redF at hR
  by_cases hm : misR L = true
  · rw [if_pos hm] at hs hR
    simp only [Prod.mk.injEq] at hR
    obtain ⟨rfl, rfl⟩ := hR
    exact (refReduce_err A0 c0 L w ⟨Hl⟩ ⟨Cl⟩ 0 0 ⟨hs⟩).mono fun e w' ⟨h1, h2⟩ => ⟨none, 0, h1, Nat.le_refl _, Kd.C_nil _ _, h2⟩
  · rw [if_neg hm] at hs hR
    simp only [Prod.mk.injEq] at hR
    obtain ⟨rfl, rfl⟩ := hR
    exact refReduce_walk A0 c0 L w ⟨Hl⟩ ⟨Cl⟩ _ ⟨fits_ofR (Bool.eq_false_iff.2 hm) hB⟩ ⟨hn, hl⟩ _ ⟨rfl⟩ _ _ ⟨hs⟩
set_option maxHeartbeats 2000000 in
set_option maxRecDepth 100000 in
theorem refRank_calls (A0 : Option Addr) (c0 : Nat) (L : List (List Int)) (w : World) (Hl : Kd.C rowK w A0 L.length L) (Cl : L.length ≤ c0) (hB : ∀ x ∈ L, areB x) (hl : L.length < 1000) (hn : (rdR L 0).length < 1000) (R : List (List Int)) (e0 : Int) (hR : redF L = (R, e0)) :
    Calls Try.prog 35 #[.slice A0 L.length c0] w fun e w' => e = .returned (.tuple #[.int .i64 (R.length : Int), .int .i64 e0]) ∧ Below w.heap.size w w' := by
  have HR := Aside0.mk (refReduce_calls A0 c0 L w Hl Cl hB hl hn R e0 hR)
  clear Hl Cl hB hl hn hR
  go_enter Try.func35, Try.ntmps35
  go_wp2_with (go_at_call 31; with_reducible refine HR.out.mono ?_; rintro e w1 ⟨A, c, rfl, hc, hC, hb⟩)
  go_ret2
  exact ⟨rfl, hb⟩
end Go.Proofs.Ythlgmmgdaciinaa.Plain
end

section
set_option linter.unusedVariables false
set_option linter.unusedSimpArgs false
namespace Go.Proofs.Ythlgmmgdaciinaa.Plain
open Go.Proofs.Ythlgmmgdaciinaa.Hand Go.Proofs.Ythlgmmgdaciinaa.GF Go.Proofs.Ythlgmmgdaciinaa.LA Go.RowKit Go.Proofs.Ythlgmmgdaciinaa.P Go.Proofs.YthlgmmgdaciinaaW.PrintWords Go.Proofs.YthlgmmgdaciinaaW.PrintLast Go.Proofs.YthlgmmgdaciinaaW.PrintMore
def besideL (L I : List (List Int)) : List (List Int) := (List.range L.length).map fun j => L.getD j [] ++ I.getD j []
theorem besideL_length (L I : List (List Int)) : (besideL L I).length = L.length := by simp [besideL]
theorem besideL_take (L I : List (List Int)) (i : Nat) (h : i < L.length) : (besideL L I).take (i + 1) = (besideL L I).take i ++ [L.getD i [] ++ I.getD i []] := by
  rw [List.take_add_one, List.getElem?_eq_getElem (by rw [besideL_length]; exact h), Option.toList_some]
  congr 1
  unfold besideL
  rw [List.getElem_map, List.getElem_range]
theorem besideL_fits {n : Nat} {L I : List (List Int)} (hL : Fits n L) (hI : Fits n I) (hl : I.length = L.length) : Fits (n + n) (besideL L I) := fun r hr => by
  obtain ⟨j, hj, rfl⟩ := List.mem_map.1 hr
  have hj := List.mem_range.1 hj
  have h1 := getD_fits hL hj
  have h2 := getD_fits hI (show j < I.length by omega)
  exact ⟨by rw [List.length_append, h1.1, h2.1], fun y hy => (List.mem_append.1 hy).elim (h1.2 y) (h2.2 y)⟩
theorem ri_len {x y : List Int} {n : Nat} (hx : x.length = n) (hy : y.length = n) (h : n < 1000) : (x.length + y.length) * 1 ≤ 140737488355328 := by omega
theorem ri_len0 {x : List Int} {n : Nat} (hx : x.length = n) (h : n < 1000) : (([] : List Int).length + x.length) * 1 ≤ 140737488355328 := by rw [List.length_nil]; omega
theorem ri_len2 {i m : Nat} (l : List (List Int)) (f : List Int → List Int) (z : List Int) (h : i ≤ m) (hm : m < 1000) : (((l.take i).map f).length + [z].length) * 24 ≤ 140737488355328 := by
  rw [List.length_map, List.length_take, List.length_singleton]; omega
theorem ri_succ (f : List Int → List Int) (l : List (List Int)) (i : Nat) (h : i < l.length) : (l.take (i + 1)).map f = (l.take i).map f ++ [f (l.getD i [])] := by
  rw [List.take_add_one, List.getElem?_eq_getElem h, Option.toList_some, List.map_append, List.getD_eq_getElem?_getD, List.getElem?_eq_getElem h]; rfl
set_option maxHeartbeats 2000000 in
set_option maxRecDepth 100000 in
theorem refInv_walk (A0 : Option Addr) (c0 : Nat) (L : List (List Int)) (w : World) (Hl : Aside0 (Kd.C rowK w A0 L.length L)) (Cl : Aside0 (L.length ≤ c0)) (LB : Aside0 (∀ x ∈ L, areB x)) (n : Nat) (LF : Aside0 (Fits n L)) (hLn : L.length = n) (K6 : Aside0 (n < 400)) (FS : Aside0 (braidworkref06_Size.f 2000 L = some ((L.length : Int), (L.length : Int), 0)))
    (Rr : List (List Int)) (HRD : Aside0 (redF L = (Rr, 0))) (hrk : Rr.length = L.length) (I : List (List Int)) (IF : Aside0 (Fits n I)) (IL : Aside0 (I.length = L.length)) (FI : Aside0 (braidworkref06_Identity.f 2000 (L.length : Int) = some (I, 0))) (WR : List (List Int)) (HWR : Aside0 (WR = redRows (besideL L I) (n + n))) (WL : Aside0 (WR.length = L.length)) (O : List (List Int)) (HO : Aside0 (O = WR.map fun r => r.drop L.length)) (hwd : Aside0 ((rdR L 0).length < 1000)) :
    Calls Try.prog 32 #[.slice A0 L.length c0] w fun e w' => ∃ (A : Option Addr) (c : Nat), e = .returned (.tuple #[.slice A O.length c, .int .i64 0]) ∧ O.length ≤ c ∧ Kd.C rowK w' A O.length O ∧ Below w.heap.size w w' := by
  have z1 : ((L.length : Int) != (L.length : Int)) = false := by simp
  have z2 : decide ((L.length : Int) < (L.length : Int)) = false := decide_eq_false (by omega)
  have HRK := Aside0.mk (fun (W : World) (hC : Kd.C rowK W A0 L.length L) => refRank_calls A0 c0 L W hC Cl.out LB.out (by rw [hLn]; have := K6.out; omega) hwd.out Rr 0 HRD.out)
  rw [hrk] at HRK
  have HLN := Aside0.mk hLn
  clear hLn hrk
  go_enter Try.func32, Try.ntmps32
  go_upto_region 8 with (first
    | (go_at_call 34; with_reducible refine (braidworkref06_Size.calls 2000 A0 c0 L (L.length : Int) (L.length : Int) 0 _ Hl.out Cl.out FS.out).mono ?_; rintro e w1 ⟨rfl, hd⟩; have hb := drawn_below hd; have HB := Aside0.mk hb; clear hd hb)
    | (go_at_call 35; with_reducible refine (HRK.out _ (Kd.C_below Hl.out HB.out)).mono ?_; rintro e w2 ⟨rfl, hb⟩; replace HB := Aside0.mk (HB.out.trans (hb.mono HB.out.size)); clear hb)
    | (go_at_call 28; with_reducible refine (braidworkref06_Identity.calls 2000 (L.length : Int) I 0 _ FI.out).mono ?_; rintro e w3 ⟨v_, rfl, ho_, hb⟩; obtain ⟨AI, cI, rfl⟩ := Kd.S_slice ho_; have HI3 := Aside0.mk (Kd.S_reads' ho_).2.2; have CI := Aside0.mk (Kd.S_reads' ho_).2.1; replace HB := Aside0.mk (HB.out.trans (hb.mono HB.out.size)); clear ho_ hb))
  have Hl3 := Aside0.mk (Kd.C_below Hl.out HB.out)
  clear z1 z2 HRK Hl
  go_wp2
  go_loopg [12, 11, 13] L.length (fun kq v12 v11 v13 w' => ∃ (i : Nat) (A : Option Addr) (c : Nat) (S : List (List Int)), v12 = .int .i64 (i : Int) ∧ v11 = .slice A S.length c ∧ Aside0 (S = redRows ((besideL L I).take i) (n + n)) ∧ Aside0 (kq + i = L.length) ∧ Aside0 (S.length ≤ c) ∧ Aside0 (Kd.C rowK w' A S.length S) ∧ Aside0 (Below w3.heap.size w3 w'))
  case atStart => exact ⟨0, none, 0, [], rfl, rfl, ⟨by rw [List.take_zero, redRows_nilR]⟩, ⟨by omega⟩, ⟨Nat.le_refl _⟩, ⟨Kd.C_nil _ _⟩, ⟨Below.refl _ _⟩⟩
  case round =>
    obtain ⟨i, A, c, S, rfl, rfl, HS, HI, HC, HA, HW⟩ := hrel
    by_cases hi : i < L.length
    · have p0 : (0 : Int) ≤ (i : Int) := Int.natCast_nonneg _
      have p1 : (i : Int) < (L.length : Int) := Int.ofNat_lt.2 hi
      have hiI : i < I.length := by rw [IL.out]; exact hi
      have p2 : (i : Int) < (I.length : Int) := Int.ofNat_lt.2 hiI
      have q1 : decide ((i : Int) < (L.length : Int)) = true := decide_eq_true p1
      obtain ⟨bd, Bk, ck, e2, hx2, hl2, hi2⟩ := at_R Hl3.out (i : Int) p0 p1
      cases e2
      obtain ⟨dd, Dk, dk, e3, hx3, hl3, hi3⟩ := at_R HI3.out (i : Int) p0 p2
      cases e3
      have er : rdR L (i : Int) = L.getD i [] := by unfold rdR; rw [Int.toNat_natCast]
      have er2 : rdR I (i : Int) = I.getD i [] := by unfold rdR; rw [Int.toNat_natCast]
      rw [er] at hx2 hl2 hi2
      rw [er2] at hx3 hl3 hi3
      rw [Int.toNat_natCast] at hx2 hx3
      replace hx2 := (HW.out.cell (World.block_lt_of_cell? _ _ hx2)).trans hx2
      replace hx3 := (HW.out.cell (World.block_lt_of_cell? _ _ hx3)).trans hx3
      have HX := Aside0.mk (Kd.C_below hi2 HW.out)
      have HY := Aside0.mk (Kd.C_below hi3 HW.out)
      have rx := getD_fits LF.out hi
      have ry := getD_fits IF.out hiI
      have hnk := snext i (by have := K6.out; have := HLN.out; omega)
      obtain ⟨S2, hS2⟩ : ∃ S2, S2 = redRows ((besideL L I).take (i + 1)) (n + n) := ⟨_, rfl⟩
      have ht := besideL_take L I i hi
      have HIN := Aside0.mk (fun (W : World) (A1 : Option Addr) (c1 : Nat) (hC : Kd.C rowK W A S.length S) (h1 : Kd.C (Kd.int .u8) W A1 (L.getD i [] ++ I.getD i []).length (L.getD i [] ++ I.getD i [])) (h2 : (L.getD i [] ++ I.getD i []).length ≤ c1) => insert_calls (n := n + n) (L := (besideL L I).take i) (fun x hx => besideL_fits LF.out IF.out IL.out x (List.mem_of_mem_take hx)) (by rw [List.length_take, besideL_length]; have := K6.out; have := HLN.out; omega) (by have := K6.out; omega) A c S HS.out A1 c1 (L.getD i [] ++ I.getD i []) ⟨by rw [List.length_append, rx.1, ry.1], fun y hy => (List.mem_append.1 hy).elim (rx.2 y) (ry.2 y)⟩ W hC HC.out h1 h2 S2 (by rw [hS2, ht]))
      have L1 := Aside0.mk (ri_len0 rx.1 (by have := K6.out; omega))
      have L2 := Aside0.mk (ri_len rx.1 ry.1 (by have := K6.out; omega))
      have HS2 := Aside0.mk hS2
      have q4 := eq_true p0
      have q5 := eq_true p1
      have q6 := eq_true hi
      have q7 := eq_true p2
      have q8 := eq_true hiI
      have Hi := Aside0.mk hi
      have Hx3 := Aside0.mk hx3
      clear p0 p1 p2 hi hiI er er2 hi2 hi3 hl2 hl3 rx ry ht hS2 hx3
      generalize L.getD i [] = x at *
      generalize I.getD i [] = y at *
      obtain ⟨z, hz⟩ : ∃ z, z = x ++ y := ⟨_, rfl⟩
      rw [← hz] at HIN
      have HZ := Aside0.mk hz
      clear hz
      have HA0 := HA
      have HW0 := HW
      cases gk with
      | zero => exact absurd HI.out (by have := Hi.out; omega)
      | succ k2 =>
      go_wp2_with (first
        | ((with_reducible refine gate_builtin (b := .append) (xs := #[.tmp 47, .tmp 51]) rfl ?_); at_builtin; refine Kd.R_append_rows (Kd.int .u8) (w0 := wr) wr.heap.size rfl (.tmp 47) (.tmp 51) 22 5 (.int .u8 0) 1 rfl Try.underlying22 infoT5 rfl (by decide) (by decide) (.slice none 0 0) [] x _ _ _ (fun _ => True) (fun _ => False) rfl rfl (Kd.R_nil _ _ _ _ _) HX.out (fun _ _ h => h) (fun _ h => h.elim) (fun _ _ => trivial) (Below.refl _ _) (Nat.le_refl _) ?hl ?hK; (case hl => exact L1.out); intro v5 w5 hR hb _ _; rw [List.nil_append] at hR; obtain ⟨As, cs, rfl⟩ := Kd.R_slice hR; have HR6 := Aside0.mk hR; replace HA := Aside0.mk (Kd.C_below HA.out hb); replace HY := Aside0.mk (Kd.C_below HY.out hb); have hx3 := (hb.cell (World.block_lt_of_cell? _ _ Hx3.out)).trans Hx3.out; replace HW := Aside0.mk (HW.out.trans (hb.mono HW.out.size)); have HB5 := Aside0.mk hb; clear hR hb hx2)
        | ((with_reducible refine gate_builtin (b := .append) (xs := #[.tmp 54, .tmp 58]) rfl ?_); at_builtin; refine Kd.R_append_rows (Kd.int .u8) (w0 := wr) wr.heap.size rfl (.tmp 54) (.tmp 58) 22 5 (.int .u8 0) 1 rfl Try.underlying22 infoT5 rfl (by decide) (by decide) (.slice As x.length cs) x y _ _ _ (fun _ => True) (fun _ => False) rfl rfl HR6.out HY.out (fun _ _ h => h) (fun _ h => h.elim) (fun _ _ => trivial) HB5.out HB5.out.size ?hl2 ?hK2; (case hl2 => exact L2.out); intro v7 w7 hR hb _ _; rw [← HZ.out] at hR; obtain ⟨Az, cz, rfl⟩ := Kd.R_slice hR; have HZ7 := Aside0.mk (Kd.R_reads' hR).2.2; have CZ7 := Aside0.mk (Kd.R_reads' hR).2.1; replace HA := Aside0.mk (Kd.C_below HA0.out hb); replace HW := Aside0.mk (HW0.out.trans (hb.mono HW0.out.size)); clear hR hb hx3)
        | (go_at_call 51; with_reducible refine (HIN.out _ _ _ HA.out HZ7.out CZ7.out).mono ?_; rintro e w8 ⟨An, cn, rfl, hcn, hCn, hb⟩; have Hn := Aside0.mk hCn; have Cn := Aside0.mk hcn; replace HW := Aside0.mk (HW.out.trans (hb.mono HW.out.size)); clear hcn hCn hb))
      go_roundg k2
      case measure => omega
      case rel => exact ⟨i + 1, An, cn, S2, by first | rfl | rw [hnk], rfl, HS2, ⟨by have := HI.out; omega⟩, Cn, Hn, HW⟩
    · have q1 : decide ((i : Int) < (L.length : Int)) = false := decide_eq_false (by omega)
      have q2 : decide (i < L.length) = false := decide_eq_false hi
      have q3 := eq_false hi
      have ei : i = L.length := by have := HI.out; omega
      have HE := Aside0.mk (show S = WR from by rw [HWR.out, HS.out, ei, ← besideL_length L I, List.take_length])
      have FW := Aside0.mk (show Fits (n + n) WR from by
        obtain ⟨P, k1, _⟩ := lead_atR (besideL_fits LF.out IF.out IL.out)
        rw [HWR.out]; exact k1)
      clear hi HI ei HS
      obtain rfl := HE.out
      clear HE
      go_wp2
      clear q1 q2 q3
      replace HB := Aside0.mk (HB.out.trans (HW.out.mono HB.out.size))
      have HA0 := HA
      clear HW HA
      obtain ⟨w9, hw9⟩ : ∃ w9, w9 = wr := ⟨_, rfl⟩
      rw [← hw9] at HB HA0 ⊢
      clear hw9
      go_loopg [15, 14] L.length (fun kq v15 v14 w' => ∃ i : Nat, v15 = .int .i64 (i : Int) ∧ Aside0 (kq + i = L.length) ∧ Aside0 (Kd.N rowK 22 w' w9.heap.size (fun _ => True) v14 ((S.take i).map fun r => r.drop L.length)) ∧ Aside0 (Below w9.heap.size w9 w'))
      case atStart => exact ⟨0, rfl, ⟨by omega⟩, ⟨by rw [List.take_zero]; exact Kd.N_nil _ _ _ _ _⟩, ⟨Below.refl _ _⟩⟩
      case round =>
        obtain ⟨i, rfl, HI, HN, HW⟩ := hrel
        by_cases hi : i < L.length
        · have hiS : i < S.length := by rw [WL.out]; exact hi
          have p0 : (0 : Int) ≤ (i : Int) := Int.natCast_nonneg _
          have p1 : (i : Int) < (L.length : Int) := Int.ofNat_lt.2 hi
          have p2 : (i : Int) < (S.length : Int) := Int.ofNat_lt.2 hiS
          have q1 : decide ((i : Int) < (L.length : Int)) = true := decide_eq_true p1
          obtain ⟨bd, Bk, ck, e2, hx2, hl2, hi2⟩ := at_R HA0.out (i : Int) p0 p2
          cases e2
          have er : rdR S (i : Int) = S.getD i [] := by unfold rdR; rw [Int.toNat_natCast]
          rw [er] at hx2 hl2 hi2
          rw [Int.toNat_natCast] at hx2
          replace hx2 := (HW.out.cell (World.block_lt_of_cell? _ _ hx2)).trans hx2
          have rx := getD_fits FW.out hiS
          have hnk := snext i (by have := K6.out; have := HLN.out; omega)
          have HS := Aside0.mk (ri_succ (fun r => r.drop L.length) S i hiS)
          have hnl : L.length ≤ (S.getD i []).length := by rw [rx.1]; have := HLN.out; omega
          obtain ⟨info, hinfo, hinf2⟩ := Option.map_eq_some_iff.1 infoT5
          have hsz : info.size = 1 := by simp only [Prod.mk.injEq] at hinf2; exact hinf2.2.1
          have hcut2 := cut_from (P := Try.prog) 22 5 .i64 Try.underlying22 hinfo 1 hsz Bk (S.getD i []).length ck (L.length : Int) (Int.natCast_nonneg _) (Int.ofNat_le.2 hnl)
          rw [Int.toNat_natCast] at hcut2
          have hdr := Kd.C_drop (m := L.length) (c := ck) hi2 hnl hl2
          rw [show (Kd.int IntKind.u8).sz = 1 from rfl] at hdr
          obtain ⟨Aq, hAq⟩ : ∃ Aq, (if ck = L.length then Bk else Option.map (fun x => x.add (L.length * 1)) Bk) = Aq := ⟨_, rfl⟩
          rw [hAq] at hcut2 hdr
          have e2 : ((S.getD i []).drop L.length).length = (S.getD i []).length - L.length := List.length_drop
          rw [e2] at hdr
          obtain ⟨z, hz⟩ : ∃ z, z = (S.getD i []).drop L.length := ⟨_, rfl⟩
          try dsimp only at HS
          rw [← hz] at HS hdr e2
          have LEN := Aside0.mk (ri_len2 (i := i) (m := L.length) S (fun r => r.drop L.length) z (Nat.le_of_lt hi) (by have := K6.out; have := HLN.out; omega))
          try dsimp only at LEN
          have HD := Aside0.mk hdr
          have CD := Aside0.mk (show (S.getD i []).length - L.length ≤ ck - L.length from by omega)
          have E2 := Aside0.mk e2
          have q4 := eq_true p0
          have q5 := eq_true p1
          have q6 := eq_true hi
          have q7 := eq_true p2
          have q8 := eq_true hiS
          have q9 := eq_true (Int.natCast_nonneg L.length)
          have q10 := eq_true (Int.ofNat_le.2 hnl)
          have Hi := Aside0.mk hi
          clear p0 p1 p2 hi hiS er hi2 hl2 rx hnl hinfo hinf2 hsz hAq hdr e2 hz
          generalize S.getD i [] = y at *
          cases gk with
          | zero => exact absurd HI.out (by have := Hi.out; omega)
          | succ k2 =>
          go_wp2_with (first
            | ((with_reducible refine gate_dst (N := 73) rfl ?_); refine Kd.N_lit rowK _ 22 ?hg (N' := 73) ?hd (xs := [z]) (inner := [.slice Aq (y.length - L.length) (ck - L.length)]) (ok := fun k_ => some k_ ≠ u14.ownBlock) (okp := fun k_ => some k_ ≠ u14.ownBlock) ?hr (Reps.one (show Kd.FK rowK _ _ z [.slice Aq (y.length - L.length) (ck - L.length)] from by rw [← E2.out]; exact Kd.FK_slice_mk (by rw [E2.out]; exact CD.out) (Kd.F_mono (Kd.F_step (Kd.C_F (Kd.heap_int _) (by rw [E2.out]; exact HD.out)) (fun j_ hj_ _ => HW.out.block j_ hj_)) (fun k_ hk_ e_ => absurd (Kd.N_base HN.out k_ e_.symm) (Nat.not_le.2 hk_)))) (Reps.none _ _)) (fun _ h => h) (fun e_ => absurd (Kd.N_lt HN.out _ e_.symm) (Nat.lt_irrefl _)) (Below.refl _ _) (Nat.le_refl _) (by simp) ?hK3; (case hd => rfl); (case hg => rfl); (case hr => first | (go_simp; done) | (go_simp; rfl)); intro v_ w10 ho_ hb _ _; obtain ⟨At, ct, rfl⟩ := Kd.N_slice ho_; have HTT := Aside0.mk (Kd.N_F ho_); clear ho_; replace HN := Aside0.mk (Kd.N_below HN.out hb); replace HW := Aside0.mk (HW.out.trans (hb.mono HW.out.size)); clear hb)
            | ((with_reducible refine gate_builtin (b := .append) (xs := #[.tmp 66, .tmp 73]) rfl ?_); at_builtin; refine Kd.N_append_rows rowK (w0 := w9) w9.heap.size rfl (.tmp 66) (.tmp 73) 23 22 (.slice none 0 0) 24 rfl Try.underlying23 infoRows rfl (show 0 < 1 by decide) (by decide) u14 ((S.take i).map fun r => r.drop L.length) [z] _ _ _ (fun _ => True) (fun k_ => some k_ ≠ u14.ownBlock) rfl rfl HN.out HTT.out (fun k hk => ⟨trivial, hk⟩) (fun _ _ => trivial) HW.out HW.out.size ?hl4 ?hK4; (case hl4 => exact LEN.out); intro v9 w11 hN hb _ _; have HN9 := Aside0.mk hN; have HW9 := Aside0.mk hb; clear hN hb))
          go_roundg k2
          case measure => omega
          case rel => exact ⟨i + 1, by first | rfl | rw [hnk], ⟨by have := HI.out; omega⟩, ⟨by rw [HS.out]; exact HN9.out⟩, HW9⟩
        · have q1 : decide ((i : Int) < (L.length : Int)) = false := decide_eq_false (by omega)
          have q2 : decide (i < L.length) = false := decide_eq_false hi
          have q3 := eq_false hi
          have ei : i = S.length := by have := HI.out; have := WL.out; omega
          have hN := HN.out
          rw [ei, List.take_length, ← HO.out] at hN
          obtain ⟨Az, cz, rfl⟩ := Kd.N_slice hN
          have HR := Aside0.mk (Kd.N_reads' hN)
          clear hi HI ei hN HN
          go_wp2
          go_ret2
          exact ⟨Az, cz, rfl, HR.out.2.1, HR.out.2.2, HB.out.trans (HW.out.mono HB.out.size)⟩
theorem refInv_err (A0 : Option Addr) (c0 : Nat) (L : List (List Int)) (w : World) (Hl : Aside0 (Kd.C rowK w A0 L.length L)) (Cl : Aside0 (L.length ≤ c0)) (a b e0 : Int) (FS : Aside0 (braidworkref06_Size.f 2000 L = some (a, b, e0))) (he : (e0 != 0) = true ∨ ((e0 != 0) = false ∧ (a != b) = true)) :
    Calls Try.prog 32 #[.slice A0 L.length c0] w fun e w' => e = .returned (.tuple #[.slice none 0 0, .int .i64 21]) ∧ Below w.heap.size w w' := by
  rcases he with h1 | ⟨h1, h2⟩
  all_goals
    go_enter Try.func32, Try.ntmps32
    go_wp2_with (go_at_call 34; with_reducible refine (braidworkref06_Size.calls 2000 A0 c0 L a b e0 _ Hl.out Cl.out FS.out).mono ?_; rintro e w1 ⟨rfl, hd⟩; have hb := drawn_below hd; have HB := Aside0.mk hb; clear hd hb)
    go_ret2
    exact ⟨rfl, HB.out⟩
set_option maxHeartbeats 1000000 in
set_option maxRecDepth 100000 in
theorem refInv_low (A0 : Option Addr) (c0 : Nat) (L : List (List Int)) (w : World) (Hl : Aside0 (Kd.C rowK w A0 L.length L)) (Cl : Aside0 (L.length ≤ c0)) (FS : Aside0 (braidworkref06_Size.f 2000 L = some ((L.length : Int), (L.length : Int), 0))) (r : Nat) (hr : r < L.length)
    (HRK : Aside0 (∀ W, Kd.C rowK W A0 L.length L → Calls Try.prog 35 #[.slice A0 L.length c0] W fun e w' => e = .returned (.tuple #[.int .i64 (r : Int), .int .i64 0]) ∧ Below W.heap.size W w')) :
    Calls Try.prog 32 #[.slice A0 L.length c0] w fun e w' => e = .returned (.tuple #[.slice none 0 0, .int .i64 24]) ∧ Below w.heap.size w w' := by
  have z1 : ((L.length : Int) != (L.length : Int)) = false := by simp
  have z2 : decide ((r : Int) < (L.length : Int)) = true := decide_eq_true (by omega)
  have z3 : (r < L.length) = True := eq_true hr
  clear hr
  go_enter Try.func32, Try.ntmps32
  go_wp2_with (first
    | (go_at_call 34; with_reducible refine (braidworkref06_Size.calls 2000 A0 c0 L (L.length : Int) (L.length : Int) 0 _ Hl.out Cl.out FS.out).mono ?_; rintro e w1 ⟨rfl, hd⟩; have hb := drawn_below hd; have HB := Aside0.mk hb; clear hd hb)
    | (go_at_call 35; with_reducible refine (HRK.out _ (Kd.C_below Hl.out HB.out)).mono ?_; rintro e w2 ⟨rfl, hb⟩; replace HB := Aside0.mk (HB.out.trans (hb.mono HB.out.size)); clear hb))
  go_ret2
  exact ⟨rfl, HB.out⟩
end Go.Proofs.Ythlgmmgdaciinaa.Plain
end
