/- QSC, part 30: PR HSpCalls PlSpB. -/
import Derived.Test.YthgpmneplpdeiaaQSC19
import Derived.Test.YthgpmneplpdeiaaQSC20
import Derived.Test.YthgpmneplpdeiaaQSC27
import Derived.Test.YthgpmneplpdeiaaQSC28
import Derived.Test.YthgpmneplpdeiaaQSC29

section
namespace Go.Proofs.Ythgpmneplpdeiaa.PR
open Go.Proofs.Ythgpmneplpdeiaa.Hand Go.Proofs.Ythgpmneplpdeiaa.P Go.RowKit Go.Proofs.YthgpmneplpdeiaaW.PrintWords Go.Proofs.YthgpmneplpdeiaaW.PrintLast Go.Proofs.YthgpmneplpdeiaaW.PrintMore
attribute [local go_sem] max2_int min2_int max_two min_two max_three min_three max_four min_four   -- for this text's walks alone
set_option linter.unusedVariables false
set_option linter.unusedSimpArgs false
end Go.Proofs.Ythgpmneplpdeiaa.PR
end

section
set_option linter.unusedVariables false
set_option linter.unusedSimpArgs false
namespace Go.Proofs.Ythgpmneplpdeiaa.Plain
open Go.Proofs.Ythgpmneplpdeiaa.Hand Go.Proofs.Ythgpmneplpdeiaa.GF Go.Proofs.Ythgpmneplpdeiaa.LA Go.RowKit Go.Proofs.Ythgpmneplpdeiaa.P Go.Proofs.Ythgpmneplpdeiaa.PQ Go.Proofs.YthgpmneplpdeiaaW.PrintWords Go.Proofs.YthgpmneplpdeiaaW.PrintLast Go.Proofs.YthgpmneplpdeiaaW.PrintMore
attribute [local go_sem] max2_int min2_int max_two min_two
theorem run_store_fn (P : Program) (w : World) (a : Addr) (m : Mode) (fn : Fn) (first captured : Array Value) : (store a (.func fn first captured) m).run P w = stored P w a (.func fn first captured) m := run_store P w a _ m rfl
attribute [local go_sem] run_store_fn
def Okl (l : List (List Int)) : Prop := l.length < 1000 ∧ ∀ x ∈ l, areB x ∧ x.length < 1000
theorem okl_len {l : List (List Int)} (h : Okl l) (i : Nat) : (l.getD i []).length ≤ 1000000 := by
  rw [List.getD_eq_getElem?_getD]
  cases e : l[i]? with
  | none => simp
  | some x => have := (h.2 x (List.mem_of_getElem? e)).2; simp; omega
theorem okl1 {l : List (List Int)} (h : Okl l) : l.length < 1000 := h.1
theorem okl2 {l : List (List Int)} (h : Okl l) : ∀ x ∈ l, areB x := fun x hx => (h.2 x hx).1
theorem cut_at (A0 : Option Addr) (c0 : Nat) (L M : List (List Int)) (w : World) (hr0 : Kd.C rowK w A0 L.length L) (hc0 : L.length ≤ c0) (h : L.length ≤ 140737488355328 ∧ cutL L = M) :
    Calls Try.prog 9 #[.slice A0 L.length c0] w fun e w' => ∃ v : Value, e = .returned v ∧ Kd.N rowK 23 w' w.heap.size (fun _ => True) v M ∧ Below w.heap.size w w' := by
  rw [← h.2]; exact cut_calls A0 c0 L w hr0 hc0 h.1
theorem refSame_at (A0 : Option Addr) (c0 : Nat) (l0 : List (List Int)) (A1 : Option Addr) (c1 : Nat) (l1 : List (List Int)) (b : Bool) (w : World) (hr0 : Kd.C rowK w A0 l0.length l0) (hr1 : Kd.C rowK w A1 l1.length l1) (hl : l0.length < 1000000000) (hb0 : ∀ x ∈ l0, areB x) (hb1 : ∀ x ∈ l1, areB x) (h : decide (l0 = l1) = b) :
    Calls Try.prog 12 #[.slice A0 l0.length c0, .slice A1 l1.length c1] w fun e w' => e = .returned (.bool b) ∧ Below w.heap.size w w' := by
  rw [← h]; exact refSame_calls A0 c0 l0 A1 c1 l1 w hr0 hr1 hl hb0 hb1
theorem refHas_at (A0 : Option Addr) (c0 : Nat) (l0 : List (List Int)) (A1 : Option Addr) (c1 : Nat) (l1 : List Int) (r1 : Bool) (r2 : Int) (w : World) (hr0 : Kd.C rowK w A0 l0.length l0) (hc0 : l0.length ≤ c0) (hr1 : Kd.C (Kd.int .u8) w A1 l1.length l1) (hc1 : l1.length ≤ c1) (h : braidworkref08_Has.f l0 l1 = some (r1, r2)) :
    Calls Try.prog 15 #[.slice A0 l0.length c0, .slice A1 l1.length c1] w fun e w' => e = .returned (.tuple #[.bool r1, .int .i64 r2]) ∧ Below w.heap.size w w' :=
  braidworkref08_Has.calls (fun k_ => k_ < w.heap.size) A0 c0 l0 (fun k_ => k_ < w.heap.size) A1 c1 l1 r1 r2 w ⟨A0, c0, rfl, hc0, Kd.C_F (Kd.heap_slice _ (Kd.heap_int _)) hr0⟩ ⟨A1, c1, rfl, hc1, Kd.C_F (Kd.heap_int _) hr1⟩ h
theorem flag_at {w6 w : World} {B : Nat} {o : Obj} (h : w6.heap[B]? = some o) (hb : Below w6.heap.size w6 w) (hB : B < w6.heap.size) : Aside0 (w.heap[B]? = some o) := ⟨(hb.block B hB).trans h⟩
theorem Rows8.single {W : World} {b : Nat} {A : Option Addr} {m c : Nat} (h : Row8 W b (.slice A m c) m) (hm : m ≤ 1000000) (hb : b ≤ W.heap.size) : Rows8 (W.alloc (.cells #[.slice A m c] 23)) b (.slice (some ⟨W.heap.size, 0, none⟩) 1 1) 1 := by
  refine ⟨_, _, rfl, fun _ => ⟨W.heap.size, #[.slice A m c], rfl, hb, ?_, fun i hi => ?_⟩⟩
  · show (W.heap.push _)[W.heap.size]? = some _
    simp
  · obtain rfl : i = 0 := by omega
    exact ⟨A, m, c, rfl, hm, h.step (below_alloc (Below.refl _ _) _)⟩
set_option maxHeartbeats 4000000 in
set_option maxRecDepth 100000 in
theorem spcalls_walk (A0 : Option Addr) (c0 : Nat) (a0 : List (List Int)) (A1 : Option Addr) (c1 : Nat) (b0 : List (List Int)) (A2 : Option Addr) (c2 : Nat) (v0 : List Int) (w : World) (Ha0 : Aside0 (Kd.C rowK w A0 a0.length a0)) (Ca0 : Aside0 (a0.length ≤ c0)) (Hb0 : Aside0 (Kd.C rowK w A1 b0.length b0)) (Cb0 : Aside0 (b0.length ≤ c1)) (Hv0 : Aside0 (Kd.C (Kd.int .u8) w A2 v0.length v0)) (Cv0 : Aside0 (v0.length ≤ c2))
    (A B : List (List Int)) (V : List Int) (CUT : Aside0 ((a0.length ≤ 140737488355328 ∧ cutL a0 = A) ∧ (b0.length ≤ 140737488355328 ∧ cutL b0 = B) ∧ (A.length ≤ 140737488355328 ∧ cutL A = A) ∧ (B.length ≤ 140737488355328 ∧ cutL B = B)))
    (hV : V = v0.take 10) (KA : Aside0 ((∀ x ∈ A, areB x) ∧ A.length < 1000)) (KB : Aside0 ((∀ x ∈ B, areB x) ∧ B.length < 1000)) (KU : Aside0 (A.length + B.length < 1000000000 ∧ (∀ x ∈ A ++ B, areB x) ∧ (A ++ B).length < 1000 ∧ (rdR (A ++ B) 0).length < 1000))
    (p1 p2 p3 is : Bool) (e1 e2 e3 e4 e5 e6 : Int) (l1 l2 : List (List Int)) (d : List Int) (OKl1 : Aside0 (Okl l1)) (OKl2 : Aside0 (Okl l2)) (OKd : Aside0 (d.length ≤ 1000000))
    (F1 : Aside0 (span_Has.f A V = some (p1, e1))) (G1 : Aside0 (braidworkref08_Has.f A V = some (p1, e1)))
    (F2 : Aside0 (span_Contains.f A B = some (p2, e2))) (G2 : Aside0 (braidworkref08_Contains.f A B = some (p2, e2)))
    (F3 : Aside0 (span_Same.f A B = some (p3, e3))) (G3 : Aside0 (braidworkref08_Same.f A B = some (p3, e3)))
    (F4 : Aside0 (span_Sum.f A B = some (l1, e4))) (G4 : Aside0 (redF (A ++ B) = (l1, e4)))
    (F5 : Aside0 (span_Meet.f A B = some (l2, e5))) (G5 : Aside0 (∀ (A0 : Option Addr) (c0 : Nat) (A1 : Option Addr) (c1 : Nat) (W : World), Kd.C rowK W A0 A.length A → A.length ≤ c0 → Kd.C rowK W A1 B.length B → B.length ≤ c1 → Calls Try.prog 23 #[.slice A0 A.length c0, .slice A1 B.length c1] W fun e w' => ∃ (Am : Option Addr) (cm : Nat), e = .returned (.tuple #[.slice Am l2.length cm, .int .i64 e5]) ∧ l2.length ≤ cm ∧ Kd.C rowK w' Am l2.length l2 ∧ Below W.heap.size W w'))
    (F6 : Aside0 (span_Witness.f A B = some (d, is, e6))) (G6 : Aside0 (PR.braidworkref08_Witness.f 2000 A B = some (d, is, e6))) :
    Calls Try.prog 3 #[.slice A0 a0.length c0, .slice A1 b0.length c1, .slice A2 v0.length c2] w fun e w' => e = .returned (.bool true) ∧ Below w.heap.size w w' := by
  have HB0 := Aside0.mk (Below.refl w.heap.size w)
  have lv := show V.length = min v0.length 10 from by rw [hV, List.length_take, Nat.min_comm]
  have hqx : V.length ≤ v0.length := by omega
  have hmn : (if (v0.length : Int) < 10 then (v0.length : Int) else 10) = (V.length : Int) := by split <;> omega
  have hmn2 : (if 10 < (v0.length : Int) then (10 : Int) else (v0.length : Int)) = (V.length : Int) := by split <;> omega
  have hmn3 : min (v0.length : Int) 10 = (V.length : Int) := by omega
  obtain ⟨info, hinfo, hinf2⟩ := Option.map_eq_some_iff.1 infoT5
  have hcut1 := cut_to (P := Try.prog) 23 5 .i64 Try.underlying23 hinfo A2 v0.length c2 (V.length : Int) (Int.natCast_nonneg _) (Int.ofNat_le.2 hqx) Cv0.out
  rw [Int.toNat_natCast] at hcut1
  have ht := Kd.C_take (m := V.length) Hv0.out hqx
  have et : v0.take V.length = V := by rw [lv, hV, List.take_eq_take_iff]; omega
  rw [et] at ht
  have HV := Aside0.mk ht
  have CV := Aside0.mk (Nat.le_trans hqx Cv0.out)
  have LV := Aside0.mk (show V.length ≤ 10 from by omega)
  have q7 := eq_true (Int.natCast_nonneg V.length)
  have q8 := eq_true (show (V.length : Int) ≤ (v0.length : Int) from Int.ofNat_le.2 hqx)
  clear Hv0 Cv0 ht et hqx lv hV hinfo hinf2
  go_enter Try.func3, Try.ntmps3
  go_upto_region 1 with fail
  refine start_ (n := 12) (S := fun w' => True) (ds := []) #[false, false, false, false, false, false, false, false, false, false, false, false] (by kernel_rfl) rfl rfl trivial (fun hHeld => ?_)
  have hb := below_drew (Below.refl w.heap.size w)
  replace Ha0 := Aside0.mk (Kd.C_below Ha0.out hb)
  replace Hb0 := Aside0.mk (Kd.C_below Hb0.out hb)
  replace HV := Aside0.mk (Kd.C_below HV.out hb)
  replace HB0 := Aside0.mk (below_drew HB0.out)
  clear hb
  generalize w.drew = w1 at Ha0 Hb0 HV HB0 hHeld ⊢
  skip
  refine pure_ (i := 0) (N := some 24) (v := ?_) (a' := ?_) #[true, false, false, false, false, false, false, false, false, false, false, false] rfl rfl (by kernel_rfl) (fun _ _ _ h => h) (Or.inl ⟨by rfl, ?_⟩) ?_ ?_
  rotate_left
  · intro w'
    go_simp
    with_reducible rfl
  rotate_left
  · simp only [Act.put, List.setIfInBounds_toArray, List.set_cons_zero, List.set_cons_succ, i64_w, i32_w]
    rfl
  refine pure_ (i := 2) (N := some 26) (v := ?_) (a' := ?_) #[true, false, true, false, false, false, false, false, false, false, false, false] rfl rfl (by kernel_rfl) (fun _ _ _ h => h) (Or.inl ⟨by rfl, ?_⟩) ?_ ?_
  rotate_left
  · intro w'
    go_simp
    with_reducible rfl
  rotate_left
  · simp only [Act.put, List.setIfInBounds_toArray, List.set_cons_zero, List.set_cons_succ, i64_w, i32_w]
    rfl
  refine pure_ (i := 4) (N := some 28) (v := ?_) (a' := ?_) #[true, false, true, false, true, false, false, false, false, false, false, false] rfl rfl (by kernel_rfl) (fun _ _ _ h => h) (Or.inl ⟨by rfl, ?_⟩) ?_ ?_
  rotate_left
  · intro w'
    go_simp
    with_reducible rfl
  rotate_left
  · simp only [Act.put, List.setIfInBounds_toArray, List.set_cons_zero, List.set_cons_succ, i64_w, i32_w]
    rfl
  refine pure_ (i := 5) (N := some 29) (v := ?_) (a' := ?_) #[true, false, true, false, true, true, false, false, false, false, false, false] rfl rfl (by kernel_rfl) (fun _ _ _ h => h) (Or.inl ⟨by rfl, ?_⟩) ?_ ?_
  rotate_left
  · intro w'
    go_simp
    with_reducible rfl
  rotate_left
  · simp only [Act.put, List.setIfInBounds_toArray, List.set_cons_zero, List.set_cons_succ, i64_w, i32_w]
    rfl
  refine pure_ (i := 6) (N := some 30) (v := ?_) (a' := ?_) #[true, false, true, false, true, true, true, false, false, false, false, false] rfl rfl (by kernel_rfl) (fun _ _ _ h => h) (Or.inl ⟨by rfl, ?_⟩) ?_ ?_
  rotate_left
  · intro w'
    go_simp
    with_reducible rfl
  rotate_left
  · simp only [Act.put, List.setIfInBounds_toArray, List.set_cons_zero, List.set_cons_succ, i64_w, i32_w]
    rfl
  refine pure_ (i := 7) (N := some 31) (v := ?_) (a' := ?_) #[true, false, true, false, true, true, true, true, false, false, false, false] rfl rfl (by kernel_rfl) (fun _ _ _ h => h) (Or.inl ⟨by rfl, ?_⟩) ?_ ?_
  rotate_left
  · intro w'
    go_simp
    with_reducible rfl
  rotate_left
  · simp only [Act.put, List.setIfInBounds_toArray, List.set_cons_zero, List.set_cons_succ, i64_w, i32_w]
    rfl
  refine pure_ (i := 8) (N := some 32) (v := ?_) (a' := ?_) #[true, false, true, false, true, true, true, true, true, false, false, false] rfl rfl (by kernel_rfl) (fun _ _ _ h => h) (Or.inl ⟨by rfl, ?_⟩) ?_ ?_
  rotate_left
  · intro w'
    go_simp
    with_reducible rfl
  rotate_left
  · simp only [Act.put, List.setIfInBounds_toArray, List.set_cons_zero, List.set_cons_succ, i64_w, i32_w]
    rfl
  refine one_ (i := 1) (N := some 25) #[true, true, true, false, true, true, true, true, true, false, false, false] rfl rfl (by kernel_rfl) (by decide) (fun K hK => ?_)
  refine goes_ Try.func9 (by kernel_rfl) rfl #[.slice A0 a0.length c0] (by rfl) rfl rfl (by simp only [List.map_toArray, List.map_cons, List.map_nil]; rfl) ?_
  with_reducible refine (cut_at A0 c0 a0 A _ Ha0.out Ca0.out CUT.out.1).mono ?_
  rintro e w2 ⟨v_, rfl, ho_, hb⟩
  refine ⟨_, rfl, ?_⟩
  obtain ⟨AA, cA, rfl⟩ := Kd.N_slice ho_
  have HA := Aside0.mk (Kd.N_reads' ho_).2.2
  have CA := Aside0.mk (Kd.N_reads' ho_).2.1
  clear ho_
  replace Hb0 := Aside0.mk (Kd.C_below Hb0.out hb)
  replace HV := Aside0.mk (Kd.C_below HV.out hb)
  replace HB0 := Aside0.mk (HB0.out.trans (hb.mono HB0.out.size))
  clear hb
  refine hK.out _ _ trivial (fun hHeld => ?_)
  clear hK K
  refine norm_ (a' := ?_) ?_ ?_
  rotate_left
  · show Act.put _ (some 25) _ = _
    simp only [Act.put, List.setIfInBounds_toArray, List.set_cons_zero, List.set_cons_succ, i64_w, i32_w]
    rfl
  refine one_ (i := 3) (N := some 27) #[true, true, true, true, true, true, true, true, true, false, false, false] rfl rfl (by kernel_rfl) (by decide) (fun K hK => ?_)
  refine goes_ Try.func9 (by kernel_rfl) rfl #[.slice A1 b0.length c1] (by rfl) rfl rfl (by simp only [List.map_toArray, List.map_cons, List.map_nil]; rfl) ?_
  with_reducible refine (cut_at A1 c1 b0 B _ Hb0.out Cb0.out CUT.out.2.1).mono ?_
  rintro e w3 ⟨v_, rfl, ho_, hb⟩
  refine ⟨_, rfl, ?_⟩
  obtain ⟨AB, cB, rfl⟩ := Kd.N_slice ho_
  have HB := Aside0.mk (Kd.N_reads' ho_).2.2
  have CB := Aside0.mk (Kd.N_reads' ho_).2.1
  clear ho_
  replace HA := Aside0.mk (Kd.C_below HA.out hb)
  replace HV := Aside0.mk (Kd.C_below HV.out hb)
  replace HB0 := Aside0.mk (HB0.out.trans (hb.mono HB0.out.size))
  clear hb
  refine hK.out _ _ trivial (fun hHeld => ?_)
  clear hK K
  refine norm_ (a' := ?_) ?_ ?_
  rotate_left
  · show Act.put _ (some 27) _ = _
    simp only [Act.put, List.setIfInBounds_toArray, List.set_cons_zero, List.set_cons_succ, i64_w, i32_w]
    rfl
  refine pure_ (i := 9) (N := some 0) (v := ?_) (a' := ?_) #[true, true, true, true, true, true, true, true, true, true, false, false] rfl rfl (by kernel_rfl) (fun _ _ _ h => h) (Or.inl ⟨by rfl, ?_⟩) ?_ ?_
  rotate_left
  · intro w'
    go_simp
    with_reducible rfl
  rotate_left
  · simp only [Act.put, List.setIfInBounds_toArray, List.set_cons_zero, List.set_cons_succ, i64_w, i32_w]
    rfl
  refine pure_ (i := 10) (N := some 1) (v := ?_) (a' := ?_) #[true, true, true, true, true, true, true, true, true, true, true, false] rfl rfl (by kernel_rfl) (fun _ _ _ h => h) (Or.inl ⟨by rfl, ?_⟩) ?_ ?_
  rotate_left
  · intro w'
    go_simp
    with_reducible rfl
  rotate_left
  · simp only [Act.put, List.setIfInBounds_toArray, List.set_cons_zero, List.set_cons_succ, i64_w, i32_w]
    rfl
  refine pure_ (i := 11) (N := some 2) (v := ?_) (a' := ?_) #[true, true, true, true, true, true, true, true, true, true, true, true] rfl rfl (by kernel_rfl) (fun _ _ _ h => h) (Or.inl ⟨by rfl, ?_⟩) ?_ ?_
  rotate_left
  · intro w'
    go_simp
    with_reducible rfl
  rotate_left
  · simp only [Act.put, List.setIfInBounds_toArray, List.set_cons_zero, List.set_cons_succ, i64_w, i32_w]
    rfl
  refine done_ (by kernel_rfl) ?_
  clear Ha0 Hb0 hmn hmn2 hmn3 hcut1 q7 q8
  go_upto_region 3 with (first
    | (go_at_call 9; with_reducible refine (cut_at AA cA A A _ HA.out CA.out CUT.out.2.2.1).mono ?_; rintro e w4 ⟨v_, rfl, ho_, hb⟩; obtain ⟨AX, cX, rfl⟩ := Kd.N_slice ho_; have HX := Aside0.mk (Kd.N_reads' ho_).2.2; have CX := Aside0.mk (Kd.N_reads' ho_).2.1; clear ho_; replace HA := Aside0.mk (Kd.C_below HA.out hb); replace HB := Aside0.mk (Kd.C_below HB.out hb); replace HV := Aside0.mk (Kd.C_below HV.out hb); replace HB0 := Aside0.mk (HB0.out.trans (hb.mono HB0.out.size)); clear hb)
    | (go_at_call 9; with_reducible refine (cut_at AB cB B B _ HB.out CB.out CUT.out.2.2.2).mono ?_; rintro e w5 ⟨v_, rfl, ho_, hb⟩; obtain ⟨AY, cY, rfl⟩ := Kd.N_slice ho_; have HY := Aside0.mk (Kd.N_reads' ho_).2.2; have CY := Aside0.mk (Kd.N_reads' ho_).2.1; clear ho_; replace HA := Aside0.mk (Kd.C_below HA.out hb); replace HB := Aside0.mk (Kd.C_below HB.out hb); replace HV := Aside0.mk (Kd.C_below HV.out hb); replace HX := Aside0.mk (Kd.C_below HX.out hb); replace HB0 := Aside0.mk (HB0.out.trans (hb.mono HB0.out.size)); clear hb)
    | ((with_reducible refine gate_builtin (b := .append) (xs := #[.const (.slice none 0 0), .tmp 37]) rfl ?_); at_builtin; refine Kd.R_append_rows (Kd.int .u8) (w0 := w5) w5.heap.size rfl (.const (.slice none 0 0)) (.tmp 37) 23 5 (.int .u8 0) 1 rfl Try.underlying23 infoT5 rfl (by decide) (by decide) (.slice none 0 0) [] V A2 V.length c2 (fun _ => True) (fun _ => False) rfl rfl (Kd.R_nil _ _ _ _ _) HV.out (fun _ _ h => h) (fun _ h => h.elim) (fun _ _ => trivial) (Below.refl _ _) (Nat.le_refl _) (by have := LV.out; rw [List.length_nil]; omega) ?_; intro v5 wf hR hb _ _; rw [List.nil_append] at hR; obtain ⟨AU, cU, rfl⟩ := Kd.R_slice hR; have HU := Aside0.mk (Kd.R_reads' hR).2.2; have CU := Aside0.mk (Kd.R_reads' hR).2.1; clear hR; replace HA := Aside0.mk (Kd.C_below HA.out hb); replace HB := Aside0.mk (Kd.C_below HB.out hb); replace HV := Aside0.mk (Kd.C_below HV.out hb); replace HX := Aside0.mk (Kd.C_below HX.out hb); replace HY := Aside0.mk (Kd.C_below HY.out hb); replace HB0 := Aside0.mk (HB0.out.trans (hb.mono HB0.out.size)); clear hb))
  have HA5 := Aside0.mk (Kd.C_alloc HA.out (.cells #[.bool true] 4))
  have HB5 := Aside0.mk (Kd.C_alloc HB.out (.cells #[.bool true] 4))
  have HV5 := Aside0.mk (Kd.C_alloc HV.out (.cells #[.bool true] 4))
  have HX5 := Aside0.mk (Kd.C_alloc HX.out (.cells #[.bool true] 4))
  have HY5 := Aside0.mk (Kd.C_alloc HY.out (.cells #[.bool true] 4))
  have HU5 := Aside0.mk (Kd.C_alloc HU.out (.cells #[.bool true] 4))
  clear HA HB HX HY HU HV
  go_upto_region 4 with fail
  have HFg := Aside0.mk (show (wf.alloc (.cells #[.bool true] 4)).heap[wf.heap.size]? = some (.cells #[.bool true] 4 (0, 0)) from by show (wf.heap.push _)[wf.heap.size]? = some _; simp)
  have HSg := Aside0.mk (show wf.heap.size < (wf.alloc (.cells #[.bool true] 4)).heap.size from by simp)
  replace HB0 := Aside0.mk (below_alloc HB0.out (.cells #[.bool true] 4))
  generalize hwg : wf.alloc (.cells #[.bool true] 4) = wg at HA5 HB5 HV5 HX5 HY5 HU5 HFg HSg HB0 ⊢
  clear hwg
  have HA6 := Aside0.mk (Kd.C_alloc HA5.out (.cells #[.func (.func 10) #[] #[]] 25))
  have HB6 := Aside0.mk (Kd.C_alloc HB5.out (.cells #[.func (.func 10) #[] #[]] 25))
  have HV6 := Aside0.mk (Kd.C_alloc HV5.out (.cells #[.func (.func 10) #[] #[]] 25))
  have HX6 := Aside0.mk (Kd.C_alloc HX5.out (.cells #[.func (.func 10) #[] #[]] 25))
  have HY6 := Aside0.mk (Kd.C_alloc HY5.out (.cells #[.func (.func 10) #[] #[]] 25))
  have HU6 := Aside0.mk (Kd.C_alloc HU5.out (.cells #[.func (.func 10) #[] #[]] 25))
  clear HA5 HB5 HX5 HY5 HU5 HV5
  go_upto_region 7 with fail
  have HF6 := Aside0.mk (((below_alloc (Below.refl wg.heap.size wg) (.cells #[.func (.func 10) #[] #[]] 25)).block wf.heap.size HSg.out).trans HFg.out)
  have HG6 := Aside0.mk (show (wg.alloc (.cells #[.func (.func 10) #[] #[]] 25)).heap[wg.heap.size]? = some (.cells #[.func (.func 10) #[] #[]] 25 (0, 0)) from by show (wg.heap.push _)[wg.heap.size]? = some _; simp)
  have HS6 := Aside0.mk (show wf.heap.size < (wg.alloc (.cells #[.func (.func 10) #[] #[]] 25)).heap.size ∧ wg.heap.size < (wg.alloc (.cells #[.func (.func 10) #[] #[]] 25)).heap.size from by have := HSg.out; constructor <;> simp <;> omega)
  have HNE := Aside0.mk (show wf.heap.size ≠ wg.heap.size from Nat.ne_of_lt HSg.out)
  replace HB0 := Aside0.mk (below_alloc HB0.out (.cells #[.func (.func 10) #[] #[]] 25))
  generalize hw6 : wg.alloc (.cells #[.func (.func 10) #[] #[]] 25) = w6 at HA6 HB6 HV6 HX6 HY6 HU6 HF6 HG6 HS6 HB0 ⊢
  clear hw6 HFg HSg
  have HW := Aside0.mk (Below.refl w6.heap.size w6)
  go_upto_region 10 with (first
    | (go_at_call 14; with_reducible refine (span_Has.calls AX cX A AU cU V p1 e1 _ (Kd.C_below HX6.out HW.out) CX.out (Kd.C_below HU6.out HW.out) CU.out F1.out).mono ?_; rintro e w7 ⟨rfl, hb⟩; replace HW := Aside0.mk (HW.out.trans (hb.mono HW.out.size)); clear hb)
    | (go_at_call 15; with_reducible refine (refHas_at AA cA A A2 c2 V p1 e1 _ (Kd.C_below HA6.out HW.out) CA.out (Kd.C_below HV6.out HW.out) CV.out G1.out).mono ?_; rintro e w8 ⟨rfl, hb⟩; replace HW := Aside0.mk (HW.out.trans (hb.mono HW.out.size)); clear hb)
    | (go_at_call 13; with_reducible refine (asks_calls p1 e1 wf.heap.size (w6.heap.size) _ (flag_at HF6.out HW.out HS6.out.1)).mono ?_; rintro e w9 ⟨rfl, hb⟩; replace HW := Aside0.mk (HW.out.trans hb); clear hb))
  go_upto_region 13 with (first
    | (go_at_call 16; with_reducible refine (span_Contains.calls AX cX A AY cY B p2 e2 _ (Kd.C_below HX6.out HW.out) CX.out (Kd.C_below HY6.out HW.out) CY.out F2.out).mono ?_; rintro e w10 ⟨rfl, hb⟩; replace HW := Aside0.mk (HW.out.trans (hb.mono HW.out.size)); clear hb)
    | (go_at_call 17; with_reducible refine (braidworkref08_Contains.calls AA cA A AB cB B p2 e2 _ (Kd.C_below HA6.out HW.out) CA.out (Kd.C_below HB6.out HW.out) CB.out G2.out).mono ?_; rintro e w11 ⟨rfl, hb⟩; replace HW := Aside0.mk (HW.out.trans (hb.mono HW.out.size)); clear hb)
    | (go_at_call 13; with_reducible refine (asks_calls p2 e2 wf.heap.size (w6.heap.size) _ (flag_at HF6.out HW.out HS6.out.1)).mono ?_; rintro e w12 ⟨rfl, hb⟩; replace HW := Aside0.mk (HW.out.trans hb); clear hb))
  go_upto_region 16 with (first
    | (go_at_call 18; with_reducible refine (span_Same.calls AX cX A AY cY B p3 e3 _ (Kd.C_below HX6.out HW.out) CX.out (Kd.C_below HY6.out HW.out) CY.out F3.out).mono ?_; rintro e w13 ⟨rfl, hb⟩; replace HW := Aside0.mk (HW.out.trans (hb.mono HW.out.size)); clear hb)
    | (go_at_call 19; with_reducible refine (braidworkref08_Same.calls AA cA A AB cB B p3 e3 _ (Kd.C_below HA6.out HW.out) CA.out (Kd.C_below HB6.out HW.out) CB.out G3.out).mono ?_; rintro e w14 ⟨rfl, hb⟩; replace HW := Aside0.mk (HW.out.trans (hb.mono HW.out.size)); clear hb)
    | (go_at_call 13; with_reducible refine (asks_calls p3 e3 wf.heap.size (w6.heap.size) _ (flag_at HF6.out HW.out HS6.out.1)).mono ?_; rintro e w15 ⟨rfl, hb⟩; replace HW := Aside0.mk (HW.out.trans hb); clear hb))
  go_upto_region 19 with (first
    | (go_at_call 20; with_reducible refine (span_Sum.calls AX cX A AY cY B l1 e4 _ (Kd.C_below HX6.out HW.out) CX.out (Kd.C_below HY6.out HW.out) CY.out F4.out).mono ?_; rintro e w16 ⟨v_, rfl, ho_, hb⟩; obtain ⟨Al, cl, rfl⟩ := Kd.S_slice ho_; have HR8 := Aside0.mk (Rows8.of_R (Kd.S_R ho_) (okl_len OKl1.out)); have HL := Aside0.mk (Kd.S_reads' ho_).2.2; have HQ := Aside0.mk hb; have HP := Aside0.mk (Nat.lt_of_lt_of_le HS6.out.2 HW.out.size); clear ho_ hb)
    | (go_at_call 21; with_reducible refine (refSum_calls AA cA A AB cB B (A ++ B) _ ⟨(Kd.C_below HA6.out (HW.out.trans (HQ.out.mono HW.out.size)))⟩ CA ⟨(Kd.C_below HB6.out (HW.out.trans (HQ.out.mono HW.out.size)))⟩ CB ⟨rfl⟩ ⟨KU.out.1⟩ ⟨KU.out.2.1⟩ ⟨KU.out.2.2.1⟩ ⟨KU.out.2.2.2⟩ l1 e4 G4).mono ?_; rintro e w17 ⟨Am, cm, rfl, hc_, hC_, hb⟩; clear hc_; have HM := Aside0.mk hC_; replace HR8 := Aside0.mk (rows8_same HR8.out hb); replace HL := Aside0.mk (Kd.C_below HL.out hb); replace HQ := Aside0.mk (HQ.out.trans (hb.mono HQ.out.size)); clear hC_ hb)
    | (go_at_call 11; with_reducible refine (lists_calls Al cl l1 e4 Am cm wf.heap.size wg.heap.size w15.heap.size _ HL ⟨HM.out⟩ ⟨okl1 OKl1.out⟩ ⟨okl2 OKl1.out⟩ (flag_at HF6.out (HW.out.trans (HQ.out.mono HW.out.size)) HS6.out.1) (flag_at HG6.out (HW.out.trans (HQ.out.mono HW.out.size)) HS6.out.2) HR8 ⟨HQ.out.size, Nat.lt_of_lt_of_le HS6.out.1 HW.out.size, HP.out, HNE.out⟩).mono ?_; rintro e w18 ⟨rfl, hb⟩; replace HW := Aside0.mk (HW.out.trans ((HQ.out.trans hb).mono HW.out.size)); clear hb HL HM HR8 HQ HP))
  go_upto_region 22 with (first
    | (go_at_call 22; with_reducible refine (span_Meet.calls AX cX A AY cY B l2 e5 _ (Kd.C_below HX6.out HW.out) CX.out (Kd.C_below HY6.out HW.out) CY.out F5.out).mono ?_; rintro e w19 ⟨v_, rfl, ho_, hb⟩; obtain ⟨Al, cl, rfl⟩ := Kd.S_slice ho_; have HR8 := Aside0.mk (Rows8.of_R (Kd.S_R ho_) (okl_len OKl2.out)); have HL := Aside0.mk (Kd.S_reads' ho_).2.2; have HQ := Aside0.mk hb; have HP := Aside0.mk (Nat.lt_of_lt_of_le HS6.out.2 HW.out.size); clear ho_ hb)
    | (go_at_call 23; with_reducible refine (G5.out AA cA AB cB _ (Kd.C_below HA6.out (HW.out.trans (HQ.out.mono HW.out.size))) CA.out (Kd.C_below HB6.out (HW.out.trans (HQ.out.mono HW.out.size))) CB.out).mono ?_; rintro e w20 ⟨Am, cm, rfl, hc_, hC_, hb⟩; clear hc_; have HM := Aside0.mk hC_; replace HR8 := Aside0.mk (rows8_same HR8.out hb); replace HL := Aside0.mk (Kd.C_below HL.out hb); replace HQ := Aside0.mk (HQ.out.trans (hb.mono HQ.out.size)); clear hC_ hb)
    | (go_at_call 11; with_reducible refine (lists_calls Al cl l2 e5 Am cm wf.heap.size wg.heap.size w18.heap.size _ HL ⟨HM.out⟩ ⟨okl1 OKl2.out⟩ ⟨okl2 OKl2.out⟩ (flag_at HF6.out (HW.out.trans (HQ.out.mono HW.out.size)) HS6.out.1) (flag_at HG6.out (HW.out.trans (HQ.out.mono HW.out.size)) HS6.out.2) HR8 ⟨HQ.out.size, Nat.lt_of_lt_of_le HS6.out.1 HW.out.size, HP.out, HNE.out⟩).mono ?_; rintro e w21 ⟨rfl, hb⟩; replace HW := Aside0.mk (HW.out.trans ((HQ.out.trans hb).mono HW.out.size)); clear hb HL HM HR8 HQ HP))
  go_upto_region 25 with (first
    | (go_at_call 24; with_reducible refine (span_Witness.calls AX cX A AY cY B d is e6 _ (Kd.C_below HX6.out HW.out) CX.out (Kd.C_below HY6.out HW.out) CY.out F6.out).mono ?_; rintro e w22 ⟨v_, rfl, ho_, hb⟩; obtain ⟨Ad, cd, rfl⟩ := Kd.R_slice ho_; have HR8 := Aside0.mk (Row8.of_R ho_); have HD := Aside0.mk (Kd.R_reads' ho_).2.2; have HQ := Aside0.mk hb; clear ho_ hb)
    | (go_at_call 25; with_reducible refine (PR.braidworkref08_Witness.calls 2000 AA cA A AB cB B d is e6 _ (Kd.C_below HA6.out (HW.out.trans (HQ.out.mono HW.out.size))) CA.out (Kd.C_below HB6.out (HW.out.trans (HQ.out.mono HW.out.size))) CB.out G6.out).mono ?_; rintro e w23 ⟨v_, rfl, ho_, hb⟩; obtain ⟨At, ct, rfl⟩ := Kd.R_slice ho_; have HT := Aside0.mk (Kd.R_reads' ho_).2.2; replace HR8 := Aside0.mk (HR8.out.step hb); replace HD := Aside0.mk (Kd.C_below HD.out hb); replace HQ := Aside0.mk (HQ.out.trans (hb.mono HQ.out.size)); clear ho_ hb)
    | (go_at_call 13; with_reducible refine (asks_calls is e6 wf.heap.size w23.heap.size _ (flag_at HF6.out (HW.out.trans (HQ.out.mono HW.out.size)) HS6.out.1)).mono ?_; rintro e w24 ⟨rfl, hb⟩; replace HR8 := Aside0.mk (HR8.out.step hb); replace HD := Aside0.mk (Kd.C_below HD.out hb); replace HT := Aside0.mk (Kd.C_below HT.out hb); replace HQ := Aside0.mk (HQ.out.trans (hb.mono HQ.out.size)); clear hb))
  have HF25 := flag_at HF6.out (HW.out.trans (HQ.out.mono HW.out.size)) HS6.out.1
  have hc := show w24.cell? ⟨wf.heap.size, 0, none⟩ = some (.bool true) from by simp [World.cell?, HF25.out]
  have hz := show w24.frozen? ⟨wf.heap.size, 0, none⟩ = false from by simp [World.frozen?, HF25.out]
  have hcv1 := Kd.C_string (P := Try.prog) (A := Ad) (c := cd) Try.underlying23 Try.underlying5 Try.underlying9 HD.out
  have hcv2 := Kd.C_string (P := Try.prog) (A := At) (c := ct) Try.underlying23 Try.underlying5 Try.underlying9 HT.out
  go_upto_region 26 with fail
  clear hcv1 hcv2 hc hz HD HT
  have hb := below_flag (b := w24.heap.size) HF25.out
  replace HR8 := Aside0.mk (HR8.out.step hb)
  replace HQ := Aside0.mk (HQ.out.trans (hb.mono HQ.out.size))
  clear hb HF25
  generalize w24.setCell ⟨wf.heap.size, 0, none⟩ (.bool true) = w25 at HR8 HQ ⊢
  have HG25 := flag_at HG6.out (HW.out.trans (HQ.out.mono HW.out.size)) HS6.out.2
  have hg := show w25.cell? ⟨wg.heap.size, 0, none⟩ = some (.func (.func 10) #[] #[]) from by simp [World.cell?, HG25.out]
  go_upto_region 27 with (go_at_call 10; with_reducible refine (flip_calls (some ⟨w25.heap.size, 0, none⟩) 1 1 w21.heap.size _ ⟨by decide⟩ ⟨Rows8.single HR8.out OKd.out HQ.out.size⟩).mono ?_; rintro e w27 ⟨rfl, hb⟩; replace HW := Aside0.mk (HW.out.trans (((below_alloc HQ.out (.cells #[.slice Ad d.length cd] 23)).trans hb).mono HW.out.size)); clear hb)
  clear hg HG25 HR8 HQ
  have HF27 := flag_at HF6.out HW.out HS6.out.1
  have hc := show w27.cell? ⟨wf.heap.size, 0, none⟩ = some (.bool true) from by simp [World.cell?, HF27.out]
  clear HF27
  go_wp2_with (first
    | (go_at_call 12; with_reducible refine (refSame_at AX cX A AA cA A true _ (Kd.C_below HX6.out HW.out) (Kd.C_below HA6.out HW.out) (by have := KA.out.2; omega) KA.out.1 KA.out.1 (decide_eq_true rfl)).mono ?_; rintro e w28 ⟨rfl, hb⟩; clear hc; replace HW := Aside0.mk (HW.out.trans (hb.mono HW.out.size)); clear hb)
    | (go_at_call 12; with_reducible refine (refSame_at AY cY B AB cB B true _ (Kd.C_below HY6.out HW.out) (Kd.C_below HB6.out HW.out) (by have := KB.out.2; omega) KB.out.1 KB.out.1 (decide_eq_true rfl)).mono ?_; rintro e w29 ⟨rfl, hb⟩; replace HW := Aside0.mk (HW.out.trans (hb.mono HW.out.size)); clear hb; have hcv1 := Kd.C_string (P := Try.prog) (A := AU) (c := cU) Try.underlying23 Try.underlying5 Try.underlying9 (Kd.C_below HU6.out HW.out); have hcv2 := Kd.C_string (P := Try.prog) (A := A2) (c := c2) Try.underlying23 Try.underlying5 Try.underlying9 (Kd.C_below HV6.out HW.out))
    | (go_at_call 26; with_reducible refine (braidworklaw08_wakes.calls true _ wakes_ok).mono ?_; rintro e w31 ⟨rfl, hb⟩; clear hcv1 hcv2; replace HW := Aside0.mk (HW.out.trans (hb.mono HW.out.size)); clear hb))
  go_ret
  exact ⟨rfl, HB0.out.trans (HW.out.mono HB0.out.size)⟩
end Go.Proofs.Ythgpmneplpdeiaa.Plain
end

section
namespace Go.Proofs.Ythgpmneplpdeiaa.Plain
open Go.Proofs.Ythgpmneplpdeiaa.Hand Go.Proofs.Ythgpmneplpdeiaa.GF Go.Proofs.Ythgpmneplpdeiaa.LA Go.RowKit Go.Proofs.Ythgpmneplpdeiaa.P Go.Proofs.Ythgpmneplpdeiaa.PQ Go.Proofs.YthgpmneplpdeiaaW.PrintWords Go.Proofs.YthgpmneplpdeiaaW.PrintLast
theorem redF_of {n : Nat} {L : List (List Int)} (hF : Fits n L) : redF L = (redRows L n, 0) := by
  unfold redF
  rw [if_neg (by rw [fits_misR hF]; simp)]
  cases L with
  | nil => rw [redRows_nilR, redRows_nilR]
  | cons a t => rw [show (rdR (a :: t) 0).length = n from (hF a (by simp)).1]
theorem wid_le {n : Nat} {L : List (List Int)} (hF : Fits n L) : (rdR L 0).length ≤ n := by
  cases L with
  | nil => simp [rdR]
  | cons a t => rw [show (rdR (a :: t) 0).length = n from (hF a (by simp)).1]; exact Nat.le_refl _
theorem refSum_f {A B : List (List Int)} (hA : Sml A) (hB : Sml B) : braidworkref08_Sum.f A B = some (redF (A ++ B)) := by
  have h1 := hA.1
  have h2 := hB.1
  have hAll := hA.app hB
  have := Sml.width hAll
  unfold braidworkref08_Sum.f
  rw [if_pos ⟨fun x hx => (hAll x hx).1, by omega, by omega⟩]
theorem okB_sml {A B : List (List Int)} (hA : Sml A) (hB : Sml B) : okB A B = true := by
  have h1 := hA.1
  have h2 := hB.1
  have := Sml.width (hA.app hB)
  exact okB_iff.2 ⟨by omega, by omega, by unfold wid; omega, fun x hx => (hA.2 x hx).1, fun x hx => (hB.2 x hx).1⟩
theorem okl_of {n : Nat} {l : List (List Int)} (h : Fits n l) (hl : l.length < 1000) (hn : n < 1000) : Okl l := ⟨hl, fun x hx => ⟨(h x hx).2, by rw [(h x hx).1]; exact hn⟩⟩
theorem meet_both {A B : List (List Int)} (hA : Sml A) (hB : Sml B) : ∃ R e, span_Meet.f A B = some (R, e) ∧ Okl R ∧ ∀ (A0 : Option Addr) (c0 : Nat) (A1 : Option Addr) (c1 : Nat) (W : World), Kd.C rowK W A0 A.length A → A.length ≤ c0 → Kd.C rowK W A1 B.length B → B.length ≤ c1 →
    Calls Try.prog 23 #[.slice A0 A.length c0, .slice A1 B.length c1] W fun e_ w' => ∃ (Am : Option Addr) (cm : Nat), e_ = .returned (.tuple #[.slice Am R.length cm, .int .i64 e]) ∧ R.length ≤ cm ∧ Kd.C rowK w' Am R.length R ∧ Below W.heap.size W w' := by
  have h1 := hA.1
  have h2 := hB.1
  have hAll := hA.app hB
  have hS := refSum_f hA hB
  have hok := okB_sml hA hB
  unfold span_Meet.f
  rw [if_pos hok]
  cases e : mis (A ++ B) with
  | true =>
    refine ⟨[], 21, by rw [if_pos rfl], ⟨by simp, fun x hx => by cases hx⟩, fun A0 c0 A1 c1 W q1 q2 q3 q4 => ?_⟩
    have hw : redF (A ++ B) = ([], 21) := by unfold redF; rw [if_pos (show misR (A ++ B) = true from e)]
    rw [hw] at hS
    exact (refMeet_err A0 c0 A A1 c1 B W ⟨q1⟩ ⟨q2⟩ ⟨q3⟩ ⟨q4⟩ [] ⟨hS⟩).mono fun e_ w' ⟨k1, k2⟩ => ⟨none, 0, k1, Nat.le_refl _, Kd.C_nil _ _, k2⟩
  | false =>
    have hF := fits_of e fun x hx => (hAll x hx).1
    have hn := Sml.width hAll
    unfold wid
    generalize (rdR (A ++ B) 0).length = n at hF hn
    have fA := fits_left hF
    have fB := fits_right hF
    rw [redF_of hF] at hS
    rw [if_neg (by simp)]
    by_cases hz : A.length = 0 ∨ (A.length ≠ 0 ∧ B.length = 0)
    · have hm : meetL A B n = [] := meet_none fA fB (by
        rcases hz with q | ⟨-, q⟩
        · exact .inl (List.length_eq_zero_iff.1 q)
        · exact .inr (List.length_eq_zero_iff.1 q))
      refine ⟨[], 0, by rw [hm], ⟨by simp, fun x hx => by cases hx⟩, fun A0 c0 A1 c1 W q1 q2 q3 q4 => ?_⟩
      exact (refMeet_nil A0 c0 A A1 c1 B W ⟨q1⟩ ⟨q2⟩ ⟨q3⟩ ⟨q4⟩ _ ⟨hS⟩ hz).mono fun e_ w' ⟨k1, k2⟩ => ⟨none, 0, k1, Nat.le_refl _, Kd.C_nil _ _, k2⟩
    · have p1 : 0 < A.length := by omega
      have p2 : 0 < B.length := by omega
      have hwA : (rdR A 0).length = n := width fA p1
      obtain ⟨pA, rA, -, fRA, -⟩ := redRows_spec fA
      obtain ⟨pB, rB, -, fRB, -⟩ := redRows_spec fB
      have fSA := sq_fits fRA pA
      have fSB := sq_fits fRB pB
      have fU : Fits n (sqL (redRows A n) pA n ++ sqL (redRows B n) pB n) := Small.append fSA fSB
      have lA := sq_few (redRows A n) pA n
      have lB := sq_few (redRows B n) pB n
      obtain ⟨pU, rU, -, fRU, -⟩ := redRows_spec fU
      have fSC := sq_fits fRU pU
      have lC := sq_few (redRows (sqL (redRows A n) pA n ++ sqL (redRows B n) pB n) n) pU n
      have hmeet := sq_meet fA fB rA rB rfl rU
      have hms := meet_small fA fB (show n < 1000 by omega)
      refine ⟨meetL A B n, 0, rfl, okl_of hms.fits hms.few (by omega), fun A0 c0 A1 c1 W q1 q2 q3 q4 => ?_⟩
      refine refMeet_main A0 c0 A A1 c1 B W ⟨q1⟩ ⟨q2⟩ ⟨q3⟩ ⟨q4⟩ _ ⟨hS⟩ p1 p2 n hwA _ _ _ _ (meetL A B n) ⟨square_f fA (by omega) hn rA⟩ ⟨square_f fB (by omega) hn rB⟩ ⟨rfl, by omega⟩ ⟨square_f fU (by rw [List.length_append]; omega) hn rU⟩ ⟨fun x hx => (fSC x hx).2⟩ ⟨by omega⟩ ⟨by have := wid_le fSC; omega⟩ 0 ⟨?_⟩
      rw [redF_of fSC, hmeet]
theorem refWit_loop {n : Nat} {A B : List (List Int)} (hA : Sml A) (hB : Sml B) (fA : Fits n A) (fB : Fits n B) (hn : n ≤ 10) (d : Nat) : ∀ (i k : Nat), i + d = A.length → d < k → (∀ j (h : j < A.length), j < i → hasB B A[j] = true) →
    PR.braidworkref08_Witness.l0 k A B (i : Int) = some (if A.findIdx (fun v => !hasB B v) < A.length then (oneAt A.length (A.findIdx (fun v => !hasB B v)), true, 0) else ([], false, 0)) := by
  have h1 := hA.1
  have h2 := hB.1
  induction d with
  | zero =>
    intro i k hi hk hj
    cases k with
    | zero => omega
    | succ k =>
      have e : A.findIdx (fun v => !hasB B v) = A.length := List.findIdx_eq_length.2 fun x hx => by
        obtain ⟨j, hjl, rfl⟩ := List.getElem_of_mem hx
        rw [hj j hjl (by omega)]; rfl
      unfold PR.braidworkref08_Witness.l0
      rw [if_neg (by omega), if_neg (by omega)]
  | succ d ih =>
    intro i k hi hk hj
    cases k with
    | zero => omega
    | succ k =>
      have hiA : i < A.length := by omega
      have hL : PR.rd_L1 A (i : Int) = A[i] := by unfold PR.rd_L1; rw [Int.toNat_natCast, List.getD_eq_getElem?_getD, List.getElem?_eq_getElem hiA, Option.getD_some]
      have hv := fA _ (List.getElem_mem hiA)
      obtain ⟨b, e, g1, g2⟩ := has_both hB (v := A[i]) (hA.2 _ (List.getElem_mem hiA))
      rw [has_f fB hv (by omega) (by omega)] at g1
      injection g1 with g1
      injection g1 with g1 g3
      have g2' : PR.braidworkref08_Has.f B A[i] = some (b, e) := g2
      unfold PR.braidworkref08_Witness.l0
      rw [if_pos (by omega), if_pos (by omega), hL, g2', Option.bind_some]
      cases hb : b with
      | true =>
        rw [if_pos rfl, show wrap64 ((i : Int) + 1) = ((i + 1 : Nat) : Int) from sq_next i (by omega)]
        refine ih (i + 1) k (by omega) (by omega) fun j hjl hji => ?_
        by_cases q : j = i
        · subst q; rw [g1, hb]
        · exact hj j hjl (by omega)
      | false =>
        have hf : A.findIdx (fun v => !hasB B v) = i := (List.findIdx_eq hiA).2 ⟨by rw [g1, hb]; rfl, fun j hji => by rw [hj j (by omega) hji]; rfl⟩
        rw [if_neg (by simp), if_pos (by omega), if_pos (by rw [Int.toNat_natCast]; omega), Option.bind_some, Int.toNat_natCast, if_pos (by rw [List.length_replicate]; omega), hf, if_pos hiA, Int.toNat_natCast]
        rfl
theorem witness_both {A B : List (List Int)} (hA : Sml A) (hB : Sml B) : ∃ d is e, span_Witness.f A B = some (d, is, e) ∧ PR.braidworkref08_Witness.f 2000 A B = some (d, is, e) ∧ d.length ≤ 1000000 := by
  have h1 := hA.1
  have h2 := hB.1
  have hAll := hA.app hB
  have hS := refSum_f hA hB
  have hok := okB_sml hA hB
  unfold span_Witness.f PR.braidworkref08_Witness.f span_out.f
  rw [if_pos hok]
  cases e : mis (A ++ B) with
  | true =>
    have hw : redF (A ++ B) = ([], 21) := by unfold redF; rw [if_pos (show misR (A ++ B) = true from e)]
    rw [hw] at hS
    rw [hS]
    exact ⟨[], false, 21, rfl, rfl, by simp⟩
  | false =>
    have hF := fits_of e fun x hx => (hAll x hx).1
    have hn := Sml.width hAll
    unfold wid
    generalize (rdR (A ++ B) 0).length = n at hF hn
    have fA := fits_left hF
    have fB := fits_right hF
    rw [redF_of hF] at hS
    have hl := refWit_loop hA hB fA fB hn A.length 0 2000 (by omega) (by omega) (fun j _ hj => absurd hj (Nat.not_lt_zero _))
    rw [hS, Option.bind_some, if_pos rfl, if_neg (by simp), Option.bind_some, if_pos rfl]
    have hL : (PR.braidworkref08_Witness.l0 2000 A B 0) = _ := hl
    rw [hL]
    have hidx : A.findIdx (fun v => !hasB (redRows B n) v) = A.findIdx (fun v => !hasB B v) := by
      have hc : ∀ v ∈ A, hasB (redRows B n) v = hasB B v := fun v hv => by
        rw [Bool.eq_iff_iff, hasB_red fB (fA v hv), hasB_iff fB (fA v hv)]
      clear hL hl
      generalize A = M at hc
      induction M with
      | nil => rfl
      | cons a t ih =>
        rw [List.findIdx_cons, List.findIdx_cons, hc a (by simp), ih fun v hv => hc v (by simp [hv])]
    unfold outN
    rw [hidx]
    by_cases q : A.findIdx (fun v => !hasB B v) < A.length
    · rw [if_pos q, if_pos q]
      refine ⟨_, _, _, ?_, rfl, ?_⟩
      · rw [if_neg (by omega), if_pos (by omega), if_pos (by rw [Int.toNat_natCast]; omega), Option.bind_some, if_pos (by omega), Int.toNat_natCast, if_pos (by rw [List.length_replicate]; omega), Int.toNat_natCast]
        rfl
      · unfold oneAt
        rw [List.length_set, List.length_replicate]; omega
    · rw [if_neg q, if_neg q]
      exact ⟨[], false, 0, rfl, rfl, by simp⟩
theorem cutL_sml {L : List (List Int)} (h : ∀ x ∈ L, areB x) : Sml (cutL L) := by
  refine ⟨by unfold cutL; rw [List.length_map, List.length_take]; omega, fun r hr => ?_⟩
  obtain ⟨a, ha, rfl⟩ := List.mem_map.1 hr
  exact ⟨fun x hx => h a (List.mem_of_mem_take ha) x (List.mem_of_mem_take hx), by rw [List.length_take]; omega⟩
theorem cutL_of_sml {L : List (List Int)} (h : Sml L) : cutL L = L := by
  unfold cutL
  rw [List.take_of_length_le h.1]
  exact (List.map_congr_left fun r hr => List.take_of_length_le (h.2 r hr).2).trans (List.map_id _)
theorem spcalls_calls (A0 : Option Addr) (c0 : Nat) (a0 : List (List Int)) (A1 : Option Addr) (c1 : Nat) (b0 : List (List Int)) (A2 : Option Addr) (c2 : Nat) (v0 : List Int) (w : World) (Ha0 : Kd.C rowK w A0 a0.length a0) (Ca0 : a0.length ≤ c0) (Hb0 : Kd.C rowK w A1 b0.length b0) (Cb0 : b0.length ≤ c1) (Hv0 : Kd.C (Kd.int .u8) w A2 v0.length v0) (Cv0 : v0.length ≤ c2)
    (la : a0.length ≤ 140737488355328) (ba : ∀ x ∈ a0, areB x) (lb : b0.length ≤ 140737488355328) (bb : ∀ x ∈ b0, areB x) (bv : areB v0) :
    Calls Try.prog 3 #[.slice A0 a0.length c0, .slice A1 b0.length c1, .slice A2 v0.length c2] w fun e w' => e = .returned (.bool true) ∧ Below w.heap.size w w' := by
  have hA := cutL_sml ba
  have hB := cutL_sml bb
  have a1 := hA.1
  have b1 := hB.1
  have hcA := cutL_of_sml hA
  have hcB := cutL_of_sml hB
  have hAll := hA.app hB
  have hw := Sml.width hAll
  have hlen : (cutL a0 ++ cutL b0).length < 1000 := by rw [List.length_append]; omega
  obtain ⟨p1, e1, F1, G1⟩ := has_both hA (v := v0.take 10) ⟨fun x hx => bv x (List.mem_of_mem_take hx), by rw [List.length_take]; omega⟩
  obtain ⟨p2, e2, F2, G2⟩ : ∃ b e, span_Contains.f (cutL a0) (cutL b0) = some (b, e) ∧ braidworkref08_Contains.f (cutL a0) (cutL b0) = some (b, e) := ⟨_, _, contains_both hA hB, contains_ref hA hB⟩
  obtain ⟨p3, e3, F3, G3⟩ := same_both hA hB
  obtain ⟨l1, e4, F4, G4, L1, L2⟩ := sum_both hA hB
  obtain ⟨l2, e5, F5, O5, G5⟩ := meet_both hA hB
  obtain ⟨d, is, e6, F6, G6, O6⟩ := witness_both hA hB
  exact spcalls_walk A0 c0 a0 A1 c1 b0 A2 c2 v0 w ⟨Ha0⟩ ⟨Ca0⟩ ⟨Hb0⟩ ⟨Cb0⟩ ⟨Hv0⟩ ⟨Cv0⟩ (cutL a0) (cutL b0) (v0.take 10) ⟨⟨la, rfl⟩, ⟨lb, rfl⟩, ⟨by omega, hcA⟩, ⟨by omega, hcB⟩⟩ rfl ⟨fun x hx => (hA.2 x hx).1, by omega⟩ ⟨fun x hx => (hB.2 x hx).1, by omega⟩ ⟨by omega, fun x hx => (hAll x hx).1, hlen, by omega⟩
    p1 p2 p3 is e1 e2 e3 e4 e5 e6 l1 l2 d ⟨by omega, fun x hx => ⟨(L2 x hx).1, by have := (L2 x hx).2; omega⟩⟩ ⟨O5⟩ ⟨O6⟩ ⟨F1⟩ ⟨G1⟩ ⟨F2⟩ ⟨G2⟩ ⟨F3⟩ ⟨G3⟩ ⟨F4⟩ ⟨G4⟩ ⟨F5⟩ ⟨G5⟩ ⟨F6⟩ ⟨G6⟩
end Go.Proofs.Ythgpmneplpdeiaa.Plain
end
