/- QMC, part 26: HCalls PlCallA PlCallB. -/
import Derived.Test.YthlgmmgdaciinaaQMC15
import Derived.Test.YthlgmmgdaciinaaQMC16
import Derived.Test.YthlgmmgdaciinaaQMC17
import Derived.Test.YthlgmmgdaciinaaQMC18
import Derived.Test.YthlgmmgdaciinaaQMC19
import Derived.Test.YthlgmmgdaciinaaQMC20
import Derived.Test.YthlgmmgdaciinaaQMC22
import Derived.Test.YthlgmmgdaciinaaQMC23
import Derived.Test.YthlgmmgdaciinaaQMC25

section
set_option linter.unusedVariables false
set_option linter.unusedSimpArgs false
namespace Go.Proofs.Ythlgmmgdaciinaa.Plain
open Go.Proofs.Ythlgmmgdaciinaa.Hand Go.Proofs.Ythlgmmgdaciinaa.GF Go.Proofs.Ythlgmmgdaciinaa.LA Go.RowKit Go.Proofs.Ythlgmmgdaciinaa.P Go.Proofs.YthlgmmgdaciinaaW.PrintWords Go.Proofs.YthlgmmgdaciinaaW.PrintLast Go.Proofs.YthlgmmgdaciinaaW.PrintMore
def Okl (l : List (List Int)) : Prop := l.length < 1000 ∧ ∀ x ∈ l, areB x ∧ x.length < 1000
theorem okl_len {l : List (List Int)} (h : Okl l) (i : Nat) : (l.getD i []).length ≤ 1000000 := by
  rw [List.getD_eq_getElem?_getD]
  cases e : l[i]? with
  | none => simp
  | some x => have := (h.2 x (List.mem_of_getElem? e)).2; simp; omega
theorem okl1 {l : List (List Int)} (h : Okl l) : l.length < 1000 := h.1
theorem okl2 {l : List (List Int)} (h : Okl l) : ∀ x ∈ l, areB x := fun x hx => (h.2 x hx).1
theorem okl3 {l : List (List Int)} (h : Okl l) : ∀ x ∈ l, x.length < 1000 := fun x hx => (h.2 x hx).2
theorem cut_at (A0 : Option Addr) (c0 : Nat) (L M : List (List Int)) (w : World) (hr0 : Kd.C rowK w A0 L.length L) (hc0 : L.length ≤ c0) (h : L.length ≤ 140737488355328 ∧ cutL L = M) :
    Calls Try.prog 25 #[.slice A0 L.length c0] w fun e w' => ∃ v : Value, e = .returned v ∧ Kd.N rowK 22 w' w.heap.size (fun _ => True) v M ∧ Below w.heap.size w w' := by
  rw [← h.2]; exact cut_calls A0 c0 L w hr0 hc0 h.1
theorem refSame_at (A0 : Option Addr) (c0 : Nat) (l0 : List (List Int)) (A1 : Option Addr) (c1 : Nat) (l1 : List (List Int)) (b : Bool) (w : World) (hr0 : Kd.C rowK w A0 l0.length l0) (hr1 : Kd.C rowK w A1 l1.length l1) (hl : l0.length < 1000000000) (hb0 : ∀ x ∈ l0, areB x) (hb1 : ∀ x ∈ l1, areB x) (h : decide (l0 = l1) = b) :
    Calls Try.prog 27 #[.slice A0 l0.length c0, .slice A1 l1.length c1] w fun e w' => e = .returned (.bool b) ∧ Below w.heap.size w w' := by
  rw [← h]; exact refSame_calls A0 c0 l0 A1 c1 l1 w hr0 hr1 hl hb0 hb1
set_option maxHeartbeats 4000000 in
set_option maxRecDepth 100000 in
theorem calls_walk (A0 : Option Addr) (c0 : Nat) (a0 : List (List Int)) (A1 : Option Addr) (c1 : Nat) (b0 : List (List Int)) (n : Int) (w : World) (Ha0 : Aside0 (Kd.C rowK w A0 a0.length a0)) (Ca0 : Aside0 (a0.length ≤ c0)) (Hb0 : Aside0 (Kd.C rowK w A1 b0.length b0)) (Cb0 : Aside0 (b0.length ≤ c1))
    (A B : List (List Int)) (CU : Aside0 ((a0.length ≤ 140737488355328 ∧ cutL a0 = A) ∧ (b0.length ≤ 140737488355328 ∧ cutL b0 = B) ∧ (A.length ≤ 140737488355328 ∧ cutL A = A) ∧ (B.length ≤ 140737488355328 ∧ cutL B = B)))
    (KA : Aside0 ((∀ x ∈ A, areB x) ∧ A.length < 1000 ∧ (rdR A 0).length < 1000)) (KB : Aside0 ((∀ x ∈ B, areB x) ∧ B.length < 1000 ∧ (rdR B 0).length < 1000))
    (i1 t1 m1 r1 v1 : List (List Int)) (e1 e2 e3 e4 e5 p q g : Int) (sb : Bool) (OKi1 : Aside0 (Okl i1)) (OKt1 : Aside0 (Okl t1)) (OKm1 : Aside0 (Okl m1)) (OKr1 : Aside0 (Okl r1)) (OKv1 : Aside0 (Okl v1))
    (I1 : Aside0 (matrix_Identity.f 2000 n = some (i1, e1))) (I2 : Aside0 (braidworkref06_Identity.f 2000 n = some (i1, e1))) (T1 : Aside0 (matrix_Transpose.f 2000 A = some (t1, e2))) (T2 : Aside0 (braidworkref06_Transpose.f 2000 A = some (t1, e2))) (M1 : Aside0 (matrix_Mul.f 2000 A B = some (m1, e3))) (M2 : Aside0 (braidworkref06_Mul.f 3000 A B = some (m1, e3)))
    (R1 : Aside0 (matrix_Reduce.f A = some (r1, e4))) (R2 : Aside0 (redF A = (r1, e4))) (V1 : Aside0 (matrix_Inverse.f A = some (v1, e5))) (V2 : Aside0 (∀ (A0 : Option Addr) (c0 : Nat) (W : World), Kd.C rowK W A0 A.length A → A.length ≤ c0 → Calls Try.prog 32 #[.slice A0 A.length c0] W fun e w' => ∃ (Am : Option Addr) (cm : Nat), e = .returned (.tuple #[.slice Am v1.length cm, .int .i64 e5]) ∧ v1.length ≤ cm ∧ Kd.C rowK w' Am v1.length v1 ∧ Below W.heap.size W w'))
    (S1 : Aside0 (matrix_Size.f A = some (p, q, g))) (S2 : Aside0 (braidworkref06_Size.f 2000 A = some (p, q, g))) (K1 : Aside0 (matrix_Rank.f A = some ((r1.length : Int), e4))) (F1 : Aside0 (matrix_Same.f A B = some sb)) (F2 : Aside0 (decide (A = B) = sb)) :
    Calls Try.prog 8 #[.slice A0 a0.length c0, .slice A1 b0.length c1, .int .i64 n] w fun e w' => e = .returned (.bool true) ∧ Below w.heap.size w w' := by
  have HB0 := Aside0.mk (Below.refl w.heap.size w)
  go_enter Try.func8, Try.ntmps8
  go_upto_region 2 with (first
    | (go_at_call 25; with_reducible refine (cut_at A0 c0 a0 A _ Ha0.out Ca0.out CU.out.1).mono ?_; rintro e w2 ⟨v_, rfl, ho_, hb⟩; obtain ⟨AA, cA, rfl⟩ := Kd.N_slice ho_; have HA := Aside0.mk (Kd.N_reads' ho_).2.2; have CA := Aside0.mk (Kd.N_reads' ho_).2.1; clear ho_; replace Hb0 := Aside0.mk (Kd.C_below Hb0.out hb);  replace HB0 := Aside0.mk (HB0.out.trans (hb.mono HB0.out.size)); clear hb)
    | (go_at_call 25; with_reducible refine (cut_at A1 c1 b0 B _ Hb0.out Cb0.out CU.out.2.1).mono ?_; rintro e w3 ⟨v_, rfl, ho_, hb⟩; obtain ⟨AB, cB, rfl⟩ := Kd.N_slice ho_; have HB := Aside0.mk (Kd.N_reads' ho_).2.2; have CB := Aside0.mk (Kd.N_reads' ho_).2.1; clear ho_; replace HA := Aside0.mk (Kd.C_below HA.out hb);  replace HB0 := Aside0.mk (HB0.out.trans (hb.mono HB0.out.size)); clear hb))
  go_upto_region 3 with (first
    | (go_at_call 25; with_reducible refine (cut_at AA cA A A _ HA.out CA.out CU.out.2.2.1).mono ?_; rintro e w4 ⟨v_, rfl, ho_, hb⟩; obtain ⟨AX, cX, rfl⟩ := Kd.N_slice ho_; have HX := Aside0.mk (Kd.N_reads' ho_).2.2; have CX := Aside0.mk (Kd.N_reads' ho_).2.1; clear ho_; replace HA := Aside0.mk (Kd.C_below HA.out hb); replace HB := Aside0.mk (Kd.C_below HB.out hb);  replace HB0 := Aside0.mk (HB0.out.trans (hb.mono HB0.out.size)); clear hb)
    | (go_at_call 25; with_reducible refine (cut_at AB cB B B _ HB.out CB.out CU.out.2.2.2).mono ?_; rintro e w5 ⟨v_, rfl, ho_, hb⟩; obtain ⟨AY, cY, rfl⟩ := Kd.N_slice ho_; have HY := Aside0.mk (Kd.N_reads' ho_).2.2; have CY := Aside0.mk (Kd.N_reads' ho_).2.1; clear ho_; replace HA := Aside0.mk (Kd.C_below HA.out hb); replace HB := Aside0.mk (Kd.C_below HB.out hb); replace HX := Aside0.mk (Kd.C_below HX.out hb);  replace HB0 := Aside0.mk (HB0.out.trans (hb.mono HB0.out.size)); clear hb))
  clear Ha0 Hb0
  have HA6 := Aside0.mk (Kd.C_alloc HA.out (.cells #[.bool true] 4))
  have HB6 := Aside0.mk (Kd.C_alloc HB.out (.cells #[.bool true] 4))
  have HX6 := Aside0.mk (Kd.C_alloc HX.out (.cells #[.bool true] 4))
  have HY6 := Aside0.mk (Kd.C_alloc HY.out (.cells #[.bool true] 4))
  clear HA HB HX HY
  go_upto_region 5 with fail
  have HF6 := Aside0.mk (show (w5.alloc (.cells #[.bool true] 4)).heap[w5.heap.size]? = some (.cells #[.bool true] 4 (0, 0)) from by show (w5.heap.push _)[w5.heap.size]? = some _; simp)
  have HS6 := Aside0.mk (show w5.heap.size < (w5.alloc (.cells #[.bool true] 4)).heap.size from by simp)
  replace HB0 := Aside0.mk (below_alloc HB0.out (.cells #[.bool true] 4))
  generalize hw6 : w5.alloc (.cells #[.bool true] 4) = w6 at HA6 HB6 HX6 HY6 HF6 HS6 HB0 ⊢
  clear hw6
  have HW := Aside0.mk (Below.refl w6.heap.size w6)
  go_upto_region 8 with (first
    | (go_at_call 16; with_reducible refine (matrix_Identity.calls 2000 n i1 e1 _ I1.out).mono ?_; rintro e w7 ⟨v_, rfl, ho_, hb⟩; obtain ⟨Al, cl, rfl⟩ := Kd.S_slice ho_; have HR8 := Aside0.mk (Rows8.of_R (Kd.S_R ho_) (okl_len OKi1.out)); have HL := Aside0.mk (Kd.S_reads' ho_).2.2; have HQ := Aside0.mk hb; have HP := Aside0.mk (show w5.heap.size < w6.heap.size from Nat.lt_of_lt_of_le HS6.out HW.out.size); clear ho_ hb)
    | (go_at_call 28; with_reducible refine (braidworkref06_Identity.calls 2000 n i1 e1 _ I2.out).mono ?_; rintro e w8 ⟨v_, rfl, ho_, hb⟩; obtain ⟨Am, cm, rfl⟩ := Kd.S_slice ho_; have hC_ := (Kd.S_reads' ho_).2.2; clear ho_; have HM := Aside0.mk hC_; replace HR8 := Aside0.mk (rows8_same HR8.out hb); replace HL := Aside0.mk (Kd.C_below HL.out hb); replace HQ := Aside0.mk (HQ.out.trans (hb.mono HQ.out.size)); clear hC_ hb)
    | (go_at_call 26; with_reducible refine (check_calls Al cl i1 e1 Am cm w5.heap.size w6.heap.size _ HL ⟨HM.out⟩ ⟨okl1 OKi1.out⟩ ⟨okl2 OKi1.out⟩ ⟨okl3 OKi1.out⟩ ⟨((HW.out.trans (HQ.out.mono HW.out.size)).block w5.heap.size HS6.out).trans HF6.out⟩ HR8 ⟨HQ.out.size, HP.out⟩).mono ?_; rintro e w10 ⟨rfl, hb⟩; replace HW := Aside0.mk (HW.out.trans ((HQ.out.trans hb).mono HW.out.size)); clear hb HL HM HR8 HQ HP))
  go_upto_region 11 with (first
    | (go_at_call 24; with_reducible refine (matrix_Transpose.calls 2000 AX cX A t1 e2 _ (Kd.C_below HX6.out HW.out) CX.out T1.out).mono ?_; rintro e w11 ⟨v_, rfl, ho_, hb⟩; obtain ⟨Al, cl, rfl⟩ := Kd.S_slice ho_; have HR8 := Aside0.mk (Rows8.of_R (Kd.S_R ho_) (okl_len OKt1.out)); have HL := Aside0.mk (Kd.S_reads' ho_).2.2; have HQ := Aside0.mk hb; have HP := Aside0.mk (show w5.heap.size < w10.heap.size from Nat.lt_of_lt_of_le HS6.out HW.out.size); clear ho_ hb)
    | (go_at_call 29; with_reducible refine (braidworkref06_Transpose.calls 2000 AA cA A t1 e2 _ (Kd.C_below HA6.out (HW.out.trans (HQ.out.mono HW.out.size))) CA.out T2.out).mono ?_; rintro e w12 ⟨v_, rfl, ho_, hb⟩; obtain ⟨Am, cm, rfl⟩ := Kd.S_slice ho_; have hC_ := (Kd.S_reads' ho_).2.2; clear ho_; have HM := Aside0.mk hC_; replace HR8 := Aside0.mk (rows8_same HR8.out hb); replace HL := Aside0.mk (Kd.C_below HL.out hb); replace HQ := Aside0.mk (HQ.out.trans (hb.mono HQ.out.size)); clear hC_ hb)
    | (go_at_call 26; with_reducible refine (check_calls Al cl t1 e2 Am cm w5.heap.size w10.heap.size _ HL ⟨HM.out⟩ ⟨okl1 OKt1.out⟩ ⟨okl2 OKt1.out⟩ ⟨okl3 OKt1.out⟩ ⟨((HW.out.trans (HQ.out.mono HW.out.size)).block w5.heap.size HS6.out).trans HF6.out⟩ HR8 ⟨HQ.out.size, HP.out⟩).mono ?_; rintro e w13 ⟨rfl, hb⟩; replace HW := Aside0.mk (HW.out.trans ((HQ.out.trans hb).mono HW.out.size)); clear hb HL HM HR8 HQ HP))
  go_upto_region 14 with (first
    | (go_at_call 13; with_reducible refine (matrix_Mul.calls 2000 AX cX A AY cY B m1 e3 _ (Kd.C_below HX6.out HW.out) CX.out (Kd.C_below HY6.out HW.out) CY.out M1.out).mono ?_; rintro e w14 ⟨v_, rfl, ho_, hb⟩; obtain ⟨Al, cl, rfl⟩ := Kd.S_slice ho_; have HR8 := Aside0.mk (Rows8.of_R (Kd.S_R ho_) (okl_len OKm1.out)); have HL := Aside0.mk (Kd.S_reads' ho_).2.2; have HQ := Aside0.mk hb; have HP := Aside0.mk (show w5.heap.size < w13.heap.size from Nat.lt_of_lt_of_le HS6.out HW.out.size); clear ho_ hb)
    | (go_at_call 30; with_reducible refine (braidworkref06_Mul.calls 3000 AA cA A AB cB B m1 e3 _ (Kd.C_below HA6.out (HW.out.trans (HQ.out.mono HW.out.size))) CA.out (Kd.C_below HB6.out (HW.out.trans (HQ.out.mono HW.out.size))) CB.out M2.out).mono ?_; rintro e w15 ⟨v_, rfl, ho_, hb⟩; obtain ⟨Am, cm, rfl⟩ := Kd.S_slice ho_; have hC_ := (Kd.S_reads' ho_).2.2; clear ho_; have HM := Aside0.mk hC_; replace HR8 := Aside0.mk (rows8_same HR8.out hb); replace HL := Aside0.mk (Kd.C_below HL.out hb); replace HQ := Aside0.mk (HQ.out.trans (hb.mono HQ.out.size)); clear hC_ hb)
    | (go_at_call 26; with_reducible refine (check_calls Al cl m1 e3 Am cm w5.heap.size w13.heap.size _ HL ⟨HM.out⟩ ⟨okl1 OKm1.out⟩ ⟨okl2 OKm1.out⟩ ⟨okl3 OKm1.out⟩ ⟨((HW.out.trans (HQ.out.mono HW.out.size)).block w5.heap.size HS6.out).trans HF6.out⟩ HR8 ⟨HQ.out.size, HP.out⟩).mono ?_; rintro e w16 ⟨rfl, hb⟩; replace HW := Aside0.mk (HW.out.trans ((HQ.out.trans hb).mono HW.out.size)); clear hb HL HM HR8 HQ HP))
  go_upto_region 17 with (first
    | (go_at_call 19; with_reducible refine (matrix_Reduce.calls AX cX A r1 e4 _ (Kd.C_below HX6.out HW.out) CX.out R1.out).mono ?_; rintro e w17 ⟨v_, rfl, ho_, hb⟩; obtain ⟨Al, cl, rfl⟩ := Kd.S_slice ho_; have HR8 := Aside0.mk (Rows8.of_R (Kd.S_R ho_) (okl_len OKr1.out)); have HL := Aside0.mk (Kd.S_reads' ho_).2.2; have HQ := Aside0.mk hb; have HP := Aside0.mk (show w5.heap.size < w16.heap.size from Nat.lt_of_lt_of_le HS6.out HW.out.size); clear ho_ hb)
    | (go_at_call 31; with_reducible refine (refReduce_calls AA cA A _ (Kd.C_below HA6.out (HW.out.trans (HQ.out.mono HW.out.size))) CA.out KA.out.1 KA.out.2.1 KA.out.2.2 r1 e4 R2.out).mono ?_; rintro e w18 ⟨Am, cm, rfl, hc_, hC_, hb⟩; clear hc_; have HM := Aside0.mk hC_; replace HR8 := Aside0.mk (rows8_same HR8.out hb); replace HL := Aside0.mk (Kd.C_below HL.out hb); replace HQ := Aside0.mk (HQ.out.trans (hb.mono HQ.out.size)); clear hC_ hb)
    | (go_at_call 26; with_reducible refine (check_calls Al cl r1 e4 Am cm w5.heap.size w16.heap.size _ HL ⟨HM.out⟩ ⟨okl1 OKr1.out⟩ ⟨okl2 OKr1.out⟩ ⟨okl3 OKr1.out⟩ ⟨((HW.out.trans (HQ.out.mono HW.out.size)).block w5.heap.size HS6.out).trans HF6.out⟩ HR8 ⟨HQ.out.size, HP.out⟩).mono ?_; rintro e w19 ⟨rfl, hb⟩; replace HW := Aside0.mk (HW.out.trans ((HQ.out.trans hb).mono HW.out.size)); clear hb HL HM HR8 HQ HP))
  go_upto_region 20 with (first
    | (go_at_call 11; with_reducible refine (matrix_Inverse.calls AX cX A v1 e5 _ (Kd.C_below HX6.out HW.out) CX.out V1.out).mono ?_; rintro e w20 ⟨v_, rfl, ho_, hb⟩; obtain ⟨Al, cl, rfl⟩ := Kd.S_slice ho_; have HR8 := Aside0.mk (Rows8.of_R (Kd.S_R ho_) (okl_len OKv1.out)); have HL := Aside0.mk (Kd.S_reads' ho_).2.2; have HQ := Aside0.mk hb; have HP := Aside0.mk (show w5.heap.size < w19.heap.size from Nat.lt_of_lt_of_le HS6.out HW.out.size); clear ho_ hb)
    | (go_at_call 32; with_reducible refine (V2.out AA cA _ (Kd.C_below HA6.out (HW.out.trans (HQ.out.mono HW.out.size))) CA.out).mono ?_; rintro e w21 ⟨Am, cm, rfl, hc_, hC_, hb⟩; clear hc_; have HM := Aside0.mk hC_; replace HR8 := Aside0.mk (rows8_same HR8.out hb); replace HL := Aside0.mk (Kd.C_below HL.out hb); replace HQ := Aside0.mk (HQ.out.trans (hb.mono HQ.out.size)); clear hC_ hb)
    | (go_at_call 26; with_reducible refine (check_calls Al cl v1 e5 Am cm w5.heap.size w19.heap.size _ HL ⟨HM.out⟩ ⟨okl1 OKv1.out⟩ ⟨okl2 OKv1.out⟩ ⟨okl3 OKv1.out⟩ ⟨((HW.out.trans (HQ.out.mono HW.out.size)).block w5.heap.size HS6.out).trans HF6.out⟩ HR8 ⟨HQ.out.size, HP.out⟩).mono ?_; rintro e w22 ⟨rfl, hb⟩; replace HW := Aside0.mk (HW.out.trans ((HQ.out.trans hb).mono HW.out.size)); clear hb HL HM HR8 HQ HP))
  go_upto_region 24 with (first
    | (go_at_call 33; with_reducible refine (matrix_Size.calls AX cX A p q g _ (Kd.C_below HX6.out HW.out) CX.out S1.out).mono ?_; rintro e w23 ⟨rfl, hb⟩; replace HW := Aside0.mk (HW.out.trans (hb.mono HW.out.size)); clear hb)
    | (go_at_call 34; with_reducible refine (braidworkref06_Size.calls 2000 AA cA A p q g _ (Kd.C_below HA6.out HW.out) CA.out S2.out).mono ?_; rintro e w24 ⟨rfl, hd⟩; have hb := drawn_below hd; clear hd; replace HW := Aside0.mk (HW.out.trans (hb.mono HW.out.size)); clear hb)
    | (go_at_call 17; with_reducible refine (matrix_Rank.calls AX cX A (r1.length : Int) e4 _ (Kd.C_below HX6.out HW.out) CX.out K1.out).mono ?_; rintro e w25 ⟨rfl, hb⟩; replace HW := Aside0.mk (HW.out.trans (hb.mono HW.out.size)); clear hb)
    | (go_at_call 35; with_reducible refine (refRank_calls AA cA A _ (Kd.C_below HA6.out HW.out) CA.out KA.out.1 KA.out.2.1 KA.out.2.2 r1 e4 R2.out).mono ?_; rintro e w26 ⟨rfl, hb⟩; replace HW := Aside0.mk (HW.out.trans (hb.mono HW.out.size)); clear hb))
  have hflag := show w26.cell? ⟨w5.heap.size, 0, none⟩ = some (.bool true) from by have h := (HW.out.block w5.heap.size HS6.out).trans HF6.out; simp [World.cell?, h]
  go_wp2_with (first
    | (go_at_call 15; with_reducible refine (matrix_Same.calls AX cX A AY cY B sb _ (Kd.C_below HX6.out HW.out) CX.out (Kd.C_below HY6.out HW.out) CY.out F1.out).mono ?_; rintro e w27 ⟨rfl, hd⟩; have hb := drawn_below hd; clear hd hflag; replace HW := Aside0.mk (HW.out.trans (hb.mono HW.out.size)); clear hb)
    | (go_at_call 27; with_reducible refine (refSame_at AA cA A AB cB B sb _ (Kd.C_below HA6.out HW.out) (Kd.C_below HB6.out HW.out) (by have := KA.out.2.1; omega) KA.out.1 KB.out.1 F2.out).mono ?_; rintro e w28 ⟨rfl, hb⟩; replace HW := Aside0.mk (HW.out.trans (hb.mono HW.out.size)); clear hb)
    | (go_at_call 27; with_reducible refine (refSame_at AX cX A AA cA A true _ (Kd.C_below HX6.out HW.out) (Kd.C_below HA6.out HW.out) (by have := KA.out.2.1; omega) KA.out.1 KA.out.1 (decide_eq_true rfl)).mono ?_; rintro e w29 ⟨rfl, hb⟩; replace HW := Aside0.mk (HW.out.trans (hb.mono HW.out.size)); clear hb)
    | (go_at_call 27; with_reducible refine (refSame_at AY cY B AB cB B true _ (Kd.C_below HY6.out HW.out) (Kd.C_below HB6.out HW.out) (by have := KB.out.2.1; omega) KB.out.1 KB.out.1 (decide_eq_true rfl)).mono ?_; rintro e w30 ⟨rfl, hb⟩; replace HW := Aside0.mk (HW.out.trans (hb.mono HW.out.size)); clear hb)
    | (go_at_call 12; with_reducible refine (braidworklaw06_wakes.calls 200 true _ (wakes_ok 192)).mono ?_; rintro e w31 ⟨rfl, hb⟩; replace HW := Aside0.mk (HW.out.trans (hb.mono HW.out.size)); clear hb))
  go_ret
  exact ⟨rfl, HB0.out.trans (HW.out.mono HB0.out.size)⟩
end Go.Proofs.Ythlgmmgdaciinaa.Plain
end

section
namespace Go.Proofs.Ythlgmmgdaciinaa.Plain
open Go.Proofs.Ythlgmmgdaciinaa.Hand Go.Proofs.Ythlgmmgdaciinaa.GF Go.Proofs.Ythlgmmgdaciinaa.LA Go.RowKit Go.Proofs.Ythlgmmgdaciinaa.P Go.Proofs.YthlgmmgdaciinaaW.PrintWords Go.Proofs.YthlgmmgdaciinaaW.PrintLast
theorem nx (i : Nat) (h : i < 1000000) : wrap64 ((i : Int) + 1) = ((i + 1 : Nat) : Int) := by unfold wrap64; omega
theorem upTo0 (f : Nat → List Int) (n : Nat) : upTo f (fun _ => []) n 0 = List.replicate n [] := by
  rw [upTo_zero, List.map_const', List.length_range]
theorem ident_loop (n : Nat) (hn : n ≤ 255) (d : Nat) : ∀ (i k : Nat), i + d = n → d < k → matrix_Identity.l0 k (n : Int) (upTo (unitRow n) (fun _ => []) n i) (n : Int) (i : Int) = some (identRows n, 0) := by
  induction d with
  | zero =>
    intro i k h1 h2
    obtain ⟨k, rfl⟩ : ∃ m, k = m + 1 := ⟨k - 1, by omega⟩
    have e : i = n := by omega
    subst e
    simp only [matrix_Identity.l0]
    rw [if_neg (by omega), upTo_all]
    rfl
  | succ d ih =>
    intro i k h1 h2
    obtain ⟨k, rfl⟩ : ∃ m, k = m + 1 := ⟨k - 1, by omega⟩
    have e : (upTo (unitRow n) (fun _ => []) n i).set i (unitRow n i) = upTo (unitRow n) (fun _ => []) n (i + 1) := upTo_set _ _ _ _ (by omega)
    simp only [matrix_Identity.l0]
    rw [if_pos (by omega), show vector_Unit.f (n : Int) (i : Int) = some (unitRow n i, 0) from unit_f n i (by omega) (by omega), Option.bind_some, if_pos (by omega), if_pos (by rw [upTo_length]; omega), Int.toNat_natCast, nx i (by omega)]
    show matrix_Identity.l0 k (n : Int) ((upTo (unitRow n) (fun _ => []) n i).set i (unitRow n i)) _ _ = _
    rw [e]
    exact ih (i + 1) k (by omega) (by omega)
theorem ident_any (n : Nat) (hn : n ≤ 255) : matrix_Identity.f 2000 (n : Int) = some (identRows n, 0) := by
  unfold matrix_Identity.f
  rw [if_neg (by omega), show decide ((n : Int) > 255) = false from decide_eq_false (by omega)]
  show matrix_Identity.j0 (1999 + 1) _ _ = _
  simp only [matrix_Identity.j0]
  rw [if_neg (by simp), if_pos (by omega), if_pos (by omega), Option.bind_some, Int.toNat_natCast, List.length_replicate, ← upTo0 (unitRow n)]
  exact ident_loop n hn n 0 1999 (by omega) (by omega)
theorem refIdent_loop (n : Nat) (hn : n ≤ 255) (d : Nat) : ∀ (i k : Nat), i + d = n → d < k → braidworkref06_Identity.l0 k (n : Int) ((List.range i).map (unitRow n)) (i : Int) = some (identRows n, 0) := by
  induction d with
  | zero =>
    intro i k h1 h2
    obtain ⟨k, rfl⟩ : ∃ m, k = m + 1 := ⟨k - 1, by omega⟩
    have e : i = n := by omega
    subst e
    simp only [braidworkref06_Identity.l0]
    rw [if_neg (by omega)]
    rfl
  | succ d ih =>
    intro i k h1 h2
    obtain ⟨k, rfl⟩ : ∃ m, k = m + 1 := ⟨k - 1, by omega⟩
    have e : (List.range i).map (unitRow n) ++ [(List.replicate (n : Int).toNat 0).set (i : Int).toNat 1] = (List.range (i + 1)).map (unitRow n) := by
      rw [List.range_succ, List.map_append]; rfl
    simp only [braidworkref06_Identity.l0]
    rw [if_pos (by omega), if_pos (by omega), if_pos (by omega), Option.bind_some, if_pos (by omega), if_pos (by rw [List.length_replicate]; omega), if_pos (by rw [List.length_map, List.length_range]; omega), nx i (by omega), e]
    exact ih (i + 1) k (by omega) (by omega)
theorem refIdent_any (n : Nat) (hn : n ≤ 255) : braidworkref06_Identity.f 2000 (n : Int) = some (identRows n, 0) := by
  unfold braidworkref06_Identity.f
  rw [if_neg (by omega), show decide ((n : Int) > 255) = false from decide_eq_false (by omega)]
  show braidworkref06_Identity.j0 (1999 + 1) _ _ = _
  simp only [braidworkref06_Identity.j0]
  rw [if_neg (by simp)]
  exact refIdent_loop n hn n 0 1999 (by omega) (by omega)
theorem okl_nil : Okl [] := ⟨by simp, by simp⟩
theorem okl_fits {n : Nat} {L : List (List Int)} (h : Fits n L) (hn : n < 1000) (hl : L.length < 1000) : Okl L := ⟨hl, fun x hx => ⟨(h x hx).2, by have := (h x hx).1; omega⟩⟩
theorem identity_both (n : Int) : ∃ i1 e1, matrix_Identity.f 2000 n = some (i1, e1) ∧ braidworkref06_Identity.f 2000 n = some (i1, e1) ∧ Okl i1 := by
  by_cases h0 : n < 0
  · refine ⟨[], 1, ?_, ?_, okl_nil⟩
    · unfold matrix_Identity.f
      rw [if_pos h0]
      show matrix_Identity.j0 (1999 + 1) _ _ = _
      simp only [matrix_Identity.j0]
      rfl
    · unfold braidworkref06_Identity.f
      rw [if_pos h0]
      show braidworkref06_Identity.j0 (1999 + 1) _ _ = _
      simp only [braidworkref06_Identity.j0]
      rfl
  · by_cases h1 : n > 255
    · refine ⟨[], 1, ?_, ?_, okl_nil⟩
      · unfold matrix_Identity.f
        rw [if_neg h0, decide_eq_true h1]
        show matrix_Identity.j0 (1999 + 1) _ _ = _
        simp only [matrix_Identity.j0]
        rfl
      · unfold braidworkref06_Identity.f
        rw [if_neg h0, decide_eq_true h1]
        show braidworkref06_Identity.j0 (1999 + 1) _ _ = _
        simp only [braidworkref06_Identity.j0]
        rfl
    · obtain ⟨m, rfl⟩ : ∃ m : Nat, n = (m : Int) := ⟨n.toNat, by omega⟩
      exact ⟨_, _, ident_any m (by omega), refIdent_any m (by omega), okl_fits (identRows_fits m) (by omega) (by rw [identRows_length]; omega)⟩
def colL (L : List (List Int)) (j : Nat) : List Int := L.map fun r => r.getD j 0
def transL (L : List (List Int)) (c : Nat) : List (List Int) := (List.range c).map (colL L)
theorem colL_length (L : List (List Int)) (j : Nat) : (colL L j).length = L.length := by simp [colL]
theorem colL_at (L : List (List Int)) (j m : Nat) (h : m < (colL L j).length) : (colL L j)[m] = rd (rd_L1 L (m : Int)) (j : Int) := by
  have hm : m < L.length := by rw [colL_length] at h; exact h
  rw [rd_nat, rd_L1_nat L m hm]
  simp [colL]
theorem transL_length (L : List (List Int)) (c : Nat) : (transL L c).length = c := by simp [transL]
theorem transL_fits {c : Nat} {L : List (List Int)} (h : ∀ x ∈ L, areB x) : Fits L.length (transL L c) := fun r hr => by
  obtain ⟨j, _, rfl⟩ := List.mem_map.1 hr
  refine ⟨colL_length L j, fun x hx => ?_⟩
  obtain ⟨r, hr, rfl⟩ := List.mem_map.1 hx
  rw [List.getD_eq_getElem?_getD]
  cases e : r[j]? with
  | none => exact ⟨by simp, by simp⟩
  | some x => exact h r hr x (List.mem_of_getElem? e)
theorem part_set (A : List Int) (m : Nat) (h : m < A.length) : (A.take m ++ List.replicate (A.length - m) 0).set m (A[m]) = A.take (m + 1) ++ List.replicate (A.length - (m + 1)) 0 := by
  rw [show A.length - m = (A.length - (m + 1)) + 1 from by omega, List.replicate_succ, List.set_append_right _ _ (by rw [List.length_take]; omega), List.length_take, Nat.min_eq_left (by omega), Nat.sub_self, List.set_cons_zero, List.take_succ_eq_append_getElem h, List.append_assoc]
  rfl
def part (A : List Int) (m : Nat) : List Int := A.take m ++ List.replicate (A.length - m) 0
theorem part_length (A : List Int) (m : Nat) (h : m ≤ A.length) : (part A m).length = A.length := by
  unfold part
  rw [List.length_append, List.length_take, List.length_replicate]; omega
theorem tr_l1 {c : Nat} (L : List (List Int)) (hL : Fits c L) (hl : L.length < 1000) (hc : c < 1000) (i : Nat) (hi : i < c) (r : List (List Int) × Int) (K : Nat)
    (next : ∀ k, K < k → matrix_Transpose.l0 k L (L.length : Int) (upTo (colL L) (fun _ => []) c (i + 1)) (c : Int) ((i + 1 : Nat) : Int) = some r) (d : Nat) :
    ∀ (m k : Nat), m + d = L.length → d + K + 1 < k → matrix_Transpose.l1 k L (L.length : Int) ((upTo (colL L) (fun _ => []) c i).set i (part (colL L i) m)) (i : Int) (c : Int) (i : Int) (L.length : Int) (m : Int) = some r := by
  induction d with
  | zero =>
    intro m k h1 h2
    obtain ⟨k, rfl⟩ : ∃ m, k = m + 1 := ⟨k - 1, by omega⟩
    have e : (upTo (colL L) (fun _ => []) c i).set i (part (colL L i) m) = upTo (colL L) (fun _ => []) c (i + 1) := by
      have h : part (colL L i) m = colL L i := by
        unfold part
        rw [List.take_of_length_le (by rw [colL_length]; omega), colL_length, show L.length - m = 0 from by omega]
        simp
      rw [h]; exact upTo_set _ _ _ _ hi
    simp only [matrix_Transpose.l1]
    rw [if_neg (by omega), e, nx i (by omega)]
    exact next k (by omega)
  | succ d ih =>
    intro m k h1 h2
    obtain ⟨k, rfl⟩ : ∃ m, k = m + 1 := ⟨k - 1, by omega⟩
    have hm : m < L.length := by omega
    have hw : (rd_L1 L (m : Int)).length = c := by rw [rd_L1_nat L m hm]; exact (hL _ (List.getElem_mem hm)).1
    have hr : rd_L1 ((upTo (colL L) (fun _ => []) c i).set i (part (colL L i) m)) (i : Int) = part (colL L i) m := by
      rw [rd_L1_getD, getD_set _ _ _ _ (by rw [upTo_length]; exact hi), if_pos rfl]
    have hp : (part (colL L i) m).length = L.length := by rw [part_length _ _ (by rw [colL_length]; omega), colL_length]
    have hs : (part (colL L i) m).set m (rd (rd_L1 L (m : Int)) (i : Int)) = part (colL L i) (m + 1) := by
      rw [← colL_at L i m (by rw [colL_length]; exact hm)]
      exact part_set _ _ _
    simp only [matrix_Transpose.l1]
    rw [if_pos (by omega), if_pos (by omega), if_pos (by rw [List.length_set, upTo_length]; omega), if_pos (by omega), if_pos (by omega), if_pos (by rw [hw]; omega), hr, if_pos (by rw [hp]; omega), Int.toNat_natCast, Int.toNat_natCast, hs, List.set_set, nx m (by omega)]
    exact ih (m + 1) k (by omega) (by omega)
theorem tr_l0 {c : Nat} (L : List (List Int)) (hL : Fits c L) (hl : L.length < 1000) (hc : c < 1000) (d : Nat) :
    ∀ (i k : Nat), i + d = c → d * (L.length + 3) < k → matrix_Transpose.l0 k L (L.length : Int) (upTo (colL L) (fun _ => []) c i) (c : Int) (i : Int) = some (transL L c, 0) := by
  induction d with
  | zero =>
    intro i k h1 h2
    obtain ⟨k, rfl⟩ : ∃ m, k = m + 1 := ⟨k - 1, by omega⟩
    have e : i = c := by omega
    subst e
    simp only [matrix_Transpose.l0]
    rw [if_neg (by omega), upTo_all]
    rfl
  | succ d ih =>
    intro i k h1 h2
    obtain ⟨k, rfl⟩ : ∃ m, k = m + 1 := ⟨k - 1, by omega⟩
    rw [Nat.succ_mul] at h2
    have e : part (colL L i) 0 = List.replicate L.length 0 := by unfold part; simp [colL_length]
    have := tr_l1 L hL hl hc i (by omega) _ (d * (L.length + 3)) (fun k hk => ih (i + 1) k (by omega) hk) L.length 0 k (by omega) (by omega)
    simp only [matrix_Transpose.l0]
    rw [if_pos (by omega), if_pos (by omega), if_pos (by omega), if_pos (by omega), if_pos (by rw [upTo_length]; omega), Int.toNat_natCast, Int.toNat_natCast, ← e]
    exact this
theorem rtr_l1 {c : Nat} (L : List (List Int)) (hL : Fits c L) (hl : L.length < 1000) (hc : c < 1000) (i : Nat) (hi : i < c) (r : List (List Int) × Int) (K : Nat)
    (next : ∀ k, K < k → braidworkref06_Transpose.l0 k L (L.length : Int) (c : Int) ((List.range (i + 1)).map (colL L)) ((i + 1 : Nat) : Int) = some r) (d : Nat) :
    ∀ (m k : Nat), m + d = L.length → d + K + 1 < k → braidworkref06_Transpose.l1 k L (L.length : Int) (c : Int) ((List.range i).map (colL L)) (i : Int) ((colL L i).take m) (m : Int) = some r := by
  induction d with
  | zero =>
    intro m k h1 h2
    obtain ⟨k, rfl⟩ : ∃ m, k = m + 1 := ⟨k - 1, by omega⟩
    have e : (List.range i).map (colL L) ++ [(colL L i).take m] = (List.range (i + 1)).map (colL L) := by
      rw [List.take_of_length_le (by rw [colL_length]; omega), List.range_succ, List.map_append]; rfl
    simp only [braidworkref06_Transpose.l1]
    rw [if_neg (by omega), if_pos (by rw [List.length_map, List.length_range]; omega), e, nx i (by omega)]
    exact next k (by omega)
  | succ d ih =>
    intro m k h1 h2
    obtain ⟨k, rfl⟩ : ∃ m, k = m + 1 := ⟨k - 1, by omega⟩
    have hm : m < L.length := by omega
    have hw : (rd_L1 L (m : Int)).length = c := by rw [rd_L1_nat L m hm]; exact (hL _ (List.getElem_mem hm)).1
    have hs : (colL L i).take m ++ [rd (rd_L1 L (m : Int)) (i : Int)] = (colL L i).take (m + 1) := by
      rw [← colL_at L i m (by rw [colL_length]; exact hm), ← List.take_succ_eq_append_getElem]
    simp only [braidworkref06_Transpose.l1]
    rw [if_pos (by omega), if_pos (by omega), if_pos (by omega), if_pos (by omega), if_pos (by rw [hw]; omega), if_pos (by rw [List.length_take]; omega), hs, nx m (by omega)]
    exact ih (m + 1) k (by omega) (by omega)
theorem rtr_l0 {c : Nat} (L : List (List Int)) (hL : Fits c L) (hl : L.length < 1000) (hc : c < 1000) (d : Nat) :
    ∀ (i k : Nat), i + d = c → d * (L.length + 3) < k → braidworkref06_Transpose.l0 k L (L.length : Int) (c : Int) ((List.range i).map (colL L)) (i : Int) = some (transL L c, 0) := by
  induction d with
  | zero =>
    intro i k h1 h2
    obtain ⟨k, rfl⟩ : ∃ m, k = m + 1 := ⟨k - 1, by omega⟩
    have e : i = c := by omega
    subst e
    simp only [braidworkref06_Transpose.l0]
    rw [if_neg (by omega)]
    rfl
  | succ d ih =>
    intro i k h1 h2
    obtain ⟨k, rfl⟩ : ∃ m, k = m + 1 := ⟨k - 1, by omega⟩
    rw [Nat.succ_mul] at h2
    have := rtr_l1 L hL hl hc i (by omega) _ (d * (L.length + 3)) (fun k hk => ih (i + 1) k (by omega) hk) L.length 0 k (by omega) (by omega)
    simp only [braidworkref06_Transpose.l0]
    rw [if_pos (by omega)]
    exact this
def Sml (A : List (List Int)) : Prop := A.length ≤ 12 ∧ ∀ r ∈ A, areB r ∧ r.length ≤ 12
theorem Sml.width {A : List (List Int)} (h : Sml A) : (rdR A 0).length ≤ 12 := by
  cases A with
  | nil => simp [rdR]
  | cons a l => exact (h.2 a (by simp)).2
theorem Sml.fits {A : List (List Int)} (h : Sml A) (hm : misR A = false) : Fits (rdR A 0).length A := fits_ofR hm fun x hx => (h.2 x hx).1
theorem sizes_both {A : List (List Int)} (h : A.length < 1000) : matrix_Size.f A = some (if misR A = true then (0, 0, 21) else ((A.length : Int), ((rdR A 0).length : Int), 0)) := by
  cases e : misR A with
  | true => rw [if_pos rfl]; exact size_err A (by omega) e
  | false => rw [if_neg (by simp)]; exact size_ok A (by omega) e
theorem transpose_both {A : List (List Int)} (h : Sml A) : ∃ t1 e2, matrix_Transpose.f 2000 A = some (t1, e2) ∧ braidworkref06_Transpose.f 2000 A = some (t1, e2) ∧ Okl t1 := by
  have h1 := h.1
  have h2 := h.width
  cases e : misR A with
  | true =>
    refine ⟨[], 21, ?_, ?_, okl_nil⟩
    · unfold matrix_Transpose.f
      rw [sizes_both (by omega), e]; rfl
    · unfold braidworkref06_Transpose.f
      rw [ref_size A (by omega), e]; rfl
  | false =>
    have hF := h.fits e
    have hb : (rdR A 0).length * (A.length + 3) ≤ 12 * 15 := Nat.mul_le_mul h2 (by omega)
    refine ⟨transL A (rdR A 0).length, 0, ?_, ?_, okl_fits (transL_fits fun x hx => (h.2 x hx).1) (by omega) (by rw [transL_length]; omega)⟩
    · unfold matrix_Transpose.f
      rw [sizes_both (by omega), e, if_neg (by simp), Option.bind_some, if_pos rfl]
      dsimp only
      rw [if_pos (by omega), if_pos (by omega), Option.bind_some, Int.toNat_natCast, List.length_replicate, ← upTo0 (colL A)]
      exact tr_l0 A hF (by omega) (by omega) (rdR A 0).length 0 2000 (by omega) (by omega)
    · unfold braidworkref06_Transpose.f
      rw [ref_size A (by omega), e, if_neg (by simp), Option.bind_some, if_pos rfl]
      exact rtr_l0 A hF (by omega) (by omega) (rdR A 0).length 0 2000 (by omega) (by omega)
end Go.Proofs.Ythlgmmgdaciinaa.Plain
end

section
set_option linter.unusedSectionVars false
namespace Go.Proofs.Ythlgmmgdaciinaa.Plain
open Go.Proofs.Ythlgmmgdaciinaa.Hand Go.Proofs.Ythlgmmgdaciinaa.GF Go.Proofs.Ythlgmmgdaciinaa.LA Go.RowKit Go.Proofs.Ythlgmmgdaciinaa.P Go.Proofs.YthlgmmgdaciinaaW.PrintWords Go.Proofs.YthlgmmgdaciinaaW.PrintLast
theorem ref_sizeK (L : List (List Int)) (h : L.length < 1000) (k : Nat) (hk : 2000 < k) : braidworkref06_Size.f k L = some (if misR L = true then (0, 0, 21) else ((L.length : Int), ((rdR L 0).length : Int), 0)) := by
  unfold braidworkref06_Size.f
  by_cases hp : 0 < L.length
  · rw [if_neg (by omega)]
    have := ref_size_loop L h hp L.length 0 k (by omega) (by omega)
    rw [List.drop_zero] at this
    exact this
  · have e := List.length_eq_zero_iff.1 (show L.length = 0 by omega)
    subst e
    rfl
def pv (a : List Int) (B : List (List Int)) (j m : Nat) : Int := ofG (S m fun q => mul (vec a q) (row (vecs B) q j))
def rowP (a : List Int) (B : List (List Int)) (c : Nat) : List Int := (List.range c).map fun j => pv a B j B.length
def prodL (A B : List (List Int)) (c : Nat) : List (List Int) := A.map fun a => rowP a B c
theorem pv_zero (a : List Int) (B : List (List Int)) (j : Nat) : pv a B j 0 = 0 := rfl
theorem pv_succ (a : List Int) (B : List (List Int)) (j q : Nat) : Go.bits .xor .u8 (pv a B j q) (gm (a.getD q 0) ((B.getD q []).getD j 0)) = pv a B j (q + 1) := by
  rw [bits_xor, toG_gm]
  unfold pv
  rw [toG_ofG]
  show ofG (S q _ ^^^ _) = ofG (S q _ ^^^ mul (vec a q) (row (vecs B) q j))
  rw [vecs_row]
  rfl
theorem rowP_length (a : List Int) (B : List (List Int)) (c : Nat) : (rowP a B c).length = c := by simp [rowP]
theorem rowP_at (a : List Int) (B : List (List Int)) (c j : Nat) (h : j < (rowP a B c).length) : (rowP a B c)[j] = pv a B j B.length := by simp [rowP]
theorem rowP_fit (a : List Int) (B : List (List Int)) (c : Nat) : (rowP a B c).length = c ∧ areB (rowP a B c) := ⟨rowP_length _ _ _, fun x hx => by
  obtain ⟨j, _, rfl⟩ := List.mem_map.1 hx
  exact ofG_range _⟩
theorem prodL_length (A B : List (List Int)) (c : Nat) : (prodL A B c).length = A.length := by simp [prodL]
theorem prodL_fits (A B : List (List Int)) (c : Nat) : Fits c (prodL A B c) := fun r hr => by
  obtain ⟨a, _, rfl⟩ := List.mem_map.1 hr
  exact rowP_fit _ _ _
theorem part_at (R : List Int) (j : Nat) (h : j < R.length) : (part R j).set j 0 = part R j := by
  unfold part
  rw [show R.length - j = (R.length - (j + 1)) + 1 from by omega, List.replicate_succ, List.set_append_right _ _ (by rw [List.length_take]; omega), List.length_take, Nat.min_eq_left (by omega), Nat.sub_self, List.set_cons_zero]
theorem getI_set (l : List Int) (j : Nat) (x : Int) (h : j < l.length) : (l.set j x).getD j 0 = x := by
  rw [List.getD_eq_getElem?_getD, List.getElem?_set_self h]; rfl
section
variable {m c : Nat} (A B : List (List Int)) (hA : Fits m A) (hB : Fits c B) (hBl : B.length = m) (hAl : A.length < 1000) (hm : m < 1000) (hc : c < 1000)
include hA hB hBl hAl hm hc
theorem rm_l2 (i : Nat) (hi : i < A.length) (j : Nat) (hj : j < c) (r : List (List Int) × Int) (K : Nat) (hK : 20 < K)
    (next : ∀ k, K < k → braidworkref06_Mul.l1 k A B (A.length : Int) (m : Int) (c : Int) ((A.take i).map fun a => rowP a B c) (i : Int) (part (rowP (A.getD i []) B c) (j + 1)) ((j + 1 : Nat) : Int) = some r) (d : Nat) :
    ∀ (q k : Nat), q + d = m → d + K + 1 < k → braidworkref06_Mul.l2 k A B (A.length : Int) (m : Int) (c : Int) ((A.take i).map fun a => rowP a B c) (i : Int) ((part (rowP (A.getD i []) B c) j).set j (pv (A.getD i []) B j q)) (j : Int) (q : Int) = some r := by
  induction d with
  | zero =>
    intro q k h1 h2
    obtain ⟨k, rfl⟩ : ∃ m, k = m + 1 := ⟨k - 1, by omega⟩
    have e : (part (rowP (A.getD i []) B c) j).set j (pv (A.getD i []) B j q) = part (rowP (A.getD i []) B c) (j + 1) := by
      rw [show q = B.length from by omega, ← rowP_at (A.getD i []) B c j (by rw [rowP_length]; exact hj)]
      exact part_set _ _ _
    simp only [braidworkref06_Mul.l2]
    rw [if_neg (by omega), e, nx j (by omega)]
    exact next k (by omega)
  | succ d ih =>
    intro q k h1 h2
    obtain ⟨k, rfl⟩ : ∃ m, k = m + 1 := ⟨k - 1, by omega⟩
    have hq : q < B.length := by omega
    have ha := getD_fits hA hi
    have hb := getD_fits hB hq
    have hp : (part (rowP (A.getD i []) B c) j).length = c := by rw [part_length _ _ (by rw [rowP_length]; omega), rowP_length]
    have hx : isB ((A.getD i []).getD q 0) := by
      rw [List.getD_eq_getElem?_getD, List.getElem?_eq_getElem (show q < (A.getD i []).length by omega)]; exact ha.2 _ (List.getElem_mem _)
    have hy : isB ((B.getD q []).getD j 0) := by
      rw [List.getD_eq_getElem?_getD, List.getElem?_eq_getElem (show j < (B.getD q []).length by omega)]; exact hb.2 _ (List.getElem_mem _)
    simp only [braidworkref06_Mul.l2]
    rw [if_pos (by omega), if_pos (by omega), if_pos (by rw [List.length_set, hp]; omega), if_pos (by omega), if_pos (by omega), if_pos (by omega), rd_L1_getD, rd_L1_getD, if_pos (by rw [ha.1]; omega), if_pos (by omega), if_pos (by rw [hb.1]; omega), rd_nat, rd_nat, rd_nat,
      ref_mul hx hy (by omega), Option.bind_some, Int.toNat_natCast, getI_set _ _ _ (by rw [hp]; exact hj), pv_succ, List.set_set, nx q (by omega)]
    exact ih (q + 1) k (by omega) (by omega)
theorem rm_l1 (i : Nat) (hi : i < A.length) (r : List (List Int) × Int) (K : Nat) (hK : 20 < K)
    (next : ∀ k, K < k → braidworkref06_Mul.l0 k A B (A.length : Int) (m : Int) (c : Int) ((A.take (i + 1)).map fun a => rowP a B c) ((i + 1 : Nat) : Int) = some r) (d : Nat) :
    ∀ (j k : Nat), j + d = c → d * (m + 3) + K + 1 < k → braidworkref06_Mul.l1 k A B (A.length : Int) (m : Int) (c : Int) ((A.take i).map fun a => rowP a B c) (i : Int) (part (rowP (A.getD i []) B c) j) (j : Int) = some r := by
  induction d with
  | zero =>
    intro j k h1 h2
    obtain ⟨k, rfl⟩ : ∃ m, k = m + 1 := ⟨k - 1, by omega⟩
    have e : (A.take i).map (fun a => rowP a B c) ++ [part (rowP (A.getD i []) B c) j] = (A.take (i + 1)).map fun a => rowP a B c := by
      have h : part (rowP (A.getD i []) B c) j = rowP (A.getD i []) B c := by
        unfold part
        rw [List.take_of_length_le (by rw [rowP_length]; omega), rowP_length, show c - j = 0 from by omega]
        simp
      rw [h]
      exact (cu_succ (fun a => rowP a B c) A i hi).symm
    simp only [braidworkref06_Mul.l1]
    rw [if_neg (by omega), if_pos (by rw [List.length_map, List.length_take]; omega), e, nx i (by omega)]
    exact next k (by omega)
  | succ d ih =>
    intro j k h1 h2
    obtain ⟨k, rfl⟩ : ∃ m, k = m + 1 := ⟨k - 1, by omega⟩
    rw [Nat.succ_mul] at h2
    have e : part (rowP (A.getD i []) B c) j = (part (rowP (A.getD i []) B c) j).set j (pv (A.getD i []) B j 0) := by
      rw [pv_zero]; exact (part_at _ _ (by rw [rowP_length]; omega)).symm
    have := rm_l2 A B hA hB hBl hAl hm hc i hi j (by omega) r (d * (m + 3) + K + 1) (by omega) (fun k hk => ih (j + 1) k (by omega) hk) m 0 k (by omega) (by omega)
    simp only [braidworkref06_Mul.l1]
    rw [if_pos (by omega), e]
    exact this
theorem rm_l0 (d : Nat) : ∀ (i k : Nat), i + d = A.length → d * (c * (m + 3) + 4) + 30 < k → braidworkref06_Mul.l0 k A B (A.length : Int) (m : Int) (c : Int) ((A.take i).map fun a => rowP a B c) (i : Int) = some (prodL A B c, 0) := by
  induction d with
  | zero =>
    intro i k h1 h2
    obtain ⟨k, rfl⟩ : ∃ m, k = m + 1 := ⟨k - 1, by omega⟩
    simp only [braidworkref06_Mul.l0]
    rw [if_neg (by omega), List.take_of_length_le (by omega)]
    rfl
  | succ d ih =>
    intro i k h1 h2
    obtain ⟨k, rfl⟩ : ∃ m, k = m + 1 := ⟨k - 1, by omega⟩
    rw [Nat.succ_mul] at h2
    have e : List.replicate c 0 = part (rowP (A.getD i []) B c) 0 := by unfold part; simp [rowP_length]
    have := rm_l1 A B hA hB hBl hAl hm hc i (by omega) _ (d * (c * (m + 3) + 4) + 30) (by omega) (fun k hk => ih (i + 1) k (by omega) hk) c 0 k (by omega) (by omega)
    simp only [braidworkref06_Mul.l0]
    rw [if_pos (by omega), if_pos (by omega), if_pos (by omega), Int.toNat_natCast, e]
    exact this
end
theorem vec_rowP (a : List Int) (B : List (List Int)) {c : Nat} (hB : Fits c B) : vec (rowP a B c) = comb (vecs B) (vec a) := funext fun j => by
  by_cases hj : j < c
  · rw [vec_lt (by rw [rowP_length]; exact hj), rowP_at]
    unfold pv comb
    rw [toG_ofG, vecs_length]
  · have h1 : vec (rowP a B c) j = 0#8 := by
      unfold vec
      rw [List.getD_eq_getElem?_getD, List.getElem?_eq_none (by rw [rowP_length]; omega)]; rfl
    rw [h1]
    exact (comb_supp (vecs_supp hB) (vec a) j (by omega)).symm
theorem prodL_vecs (A B : List (List Int)) {c : Nat} (hB : Fits c B) : vecs (prodL A B c) = prod (vecs A) (vecs B) := by
  unfold vecs prodL prod
  rw [List.map_map, List.map_map]
  exact List.map_congr_left fun a _ => vec_rowP a B hB
end Go.Proofs.Ythlgmmgdaciinaa.Plain
end
