/- QTB, part 10: HClone HCloneN HBr HSlIns. -/
import Derived.Test.YtpfaaljmefgpbaaQTB6
import Derived.Test.YtpfaaljmefgpbaaQTB9
import Derived.Lib.LazyBuf
import Derived.Shelf.Spec.SlicesInsertGrow
import Derived.Lib.Overlaps

section
set_option linter.unusedVariables false
set_option linter.unusedSimpArgs false
namespace Go.Proofs.Ytpfaaljmefgpbaa.Hand
open Go.RowKit Go.Proofs.YtpfaaljmefgpbaaW.PrintWords Go.Proofs.YtpfaaljmefgpbaaW.PrintLast Go.Proofs.YtpfaaljmefgpbaaW.PrintMore
theorem eqlNil (w : World) (a : Option Addr) (l c : Nat) : (binOp .eql 22 (.slice a l c) (.slice none 0 0)).run Try.prog w = .ok (.bool a.isNone) w := Go.run_eql_slice_nil w _ _ a l c Try.underlying22
attribute [local go_sem] eqlNil
attribute [local go_sem] max2_int min2_int max_two min_two max_three min_three max_four min_four
def bytes_CloneW.f (l0 : List Int) : Option (List Int) := (some (([] : List Int) : List Int)).bind fun y101 => (if y101.length + l0.length < 140737488355328 then (some (y101 ++ l0)) else (none))
set_option maxHeartbeats 8000000 in
set_option maxRecDepth 100000 in
theorem bytes_CloneW.calls (A0 : Addr) (c0 : Nat) (l0 : List Int) (r : List Int) (w : World) (hr0 : Kd.C (Kd.int .u8) w (some A0) l0.length l0) (hc0 : l0.length ≤ c0) (h : bytes_CloneW.f l0 = some r) :
    Calls Try.prog 36 #[.slice (some A0) l0.length c0] w fun e w' => ∃ v0_ : Value, e = .returned (v0_) ∧ Kd.R (Kd.int .u8) 5 w' w.heap.size (fun _ => True) v0_ r ∧ Below w.heap.size w w' := by
  have HR0 := Aside0.mk hr0
  have HC0 := Aside0.mk hc0
  clear hr0 hc0
  have HB := Aside0.mk (Below.refl w.heap.size w)
  have H : ((some (([] : List Int) : List Int)).bind fun y101 => (if y101.length + l0.length < 140737488355328 then (some (y101 ++ l0)) else (none))) = some r := h
  clear h
  obtain ⟨y101, hy101⟩ : ∃ y_ : List Int, y_ = (([] : List Int)) := ⟨_, rfl⟩
  replace H : (if y101.length + l0.length < 140737488355328 then (some (y101 ++ l0)) else (none)) = some r := by first | (rw [hy101]; with_reducible exact H) | (have H2_ := (Option.bind_some _ _).symm.trans H; rw [hy101]; with_reducible exact H2_) | (have H2_ := (Option.bind_some _ _).symm.trans H; with_reducible exact H2_) | with_reducible exact H | (rw [hy101]; exact H) | exact H
  have Ny101 := Aside0.mk hy101
  clear hy101
  by_cases c2 : y101.length + l0.length < 140737488355328
  · rw [if_pos c2] at H
    have LMc2 := Aside0.mk c2
    clear c2
    obtain ⟨y104, hy104⟩ : ∃ y_ : List Int, y_ = (y101 ++ l0) := ⟨_, rfl⟩
    replace H : (some y104) = some r := by first | (rw [hy104]; with_reducible exact H) | (have H2_ := (Option.bind_some _ _).symm.trans H; rw [hy104]; with_reducible exact H2_) | (have H2_ := (Option.bind_some _ _).symm.trans H; with_reducible exact H2_) | with_reducible exact H | (rw [hy104]; exact H) | exact H
    have Ny104 := Aside0.mk hy104
    clear hy104
    obtain rfl := Option.some.inj H
    go_enter Try.func36, Try.ntmps36
    go_wp2_with (first | ((with_reducible refine gate_dst (N := 5) rfl ?_); refine Kd.R_lit (Kd.int .u8) _ 5 ?hg (N := 5) ?hd (xs := ([] : List Int)) (inner := []) (ok := fun _ => True) (okp := fun _ => True) ?hr ?hp (fun _ hk => hk) trivial (Below.refl _ _) (Nat.le_refl _) (by simp) ?_; (case hd => rfl); (case hg => rfl); (case hr => first | (go_simp; done) | (go_simp; rfl)); (case hp => exact (Reps.none _ _)); intro v102 w3 ho4 hb hg_ hnew_; clear hg_ hnew_; (first | rw [← Ny101.out] at ho4 | (simp only [Int.reduceToNat] at ho4; rw [← Ny101.out] at ho4)); have n0_ := Aside0.mk (Kd.R_lower ho4 (below_size (by repeat (first | (with_reducible first | exact HB.out | apply below_alloc | apply pw_below_drewN | apply below_drew1) | exact HB.out)))); have n1_ := Aside0.mk (below_step (by repeat (first | (with_reducible first | exact HB.out | apply below_alloc | apply pw_below_drewN | apply below_drew1) | exact HB.out)) hb); clear HB; have HO103 := n0_; have HB := n1_; clear n0_ n1_; clear hb ho4) | ((with_reducible refine gate_builtin (b := .append) (xs := #[.tmp 5, .tmp 6]) rfl ?_); at_builtin; refine Kd.R_append_rows (Kd.int .u8) (w0 := w) w.heap.size rfl (.tmp 5) (.tmp 6) 22 5 (.int .u8 0) 1 rfl Try.underlying22 infoT5 rfl (by decide) (by omega) v102 y101 l0 _ _ _ (fun _ => True) (fun _ => False) rfl rfl ?aO ?aR (fun _ _ h => h) (fun _ h => h.elim) ?aF ?aB ?aS ?aL ?_; (case aR => repeat (first | exact (Kd.C_below HR0.out HB.out) | (with_reducible refine Kd.C_alloc ?_ _) | (with_reducible refine Kd.C_drewN ?_ _) | (with_reducible refine Kd.C_drew ?_))); (case aB => exact (by repeat (first | (with_reducible first | exact HB.out | apply below_alloc | apply pw_below_drewN | apply below_drew1) | exact HB.out))); (case aF => exact (fun _ _ => trivial)); (case aO => exact (by (with_reducible repeat (first | apply Kd.R_alloc | apply Kd.R_drewN | apply Kd.R_drew)); exact HO103.out)); (case aS => exact (below_size (by repeat (first | (with_reducible first | exact HB.out | apply below_alloc | apply pw_below_drewN | apply below_drew1) | exact HB.out)))); (case aL => have := LMc2.out; omega); intro v105 w5 ho hb hg hat; rw [← Ny104.out] at ho; have n0_ := Aside0.mk (hb); have n1_ := Aside0.mk (ho); clear HB; clear HO103; have HB := n0_; have HO106 := n1_; clear n0_ n1_; clear ho hb hg hat))
    go_ret
    exact ⟨_, by first | rfl | (simp [errW_none, errW_some] <;> rfl) | (simp [*, errW_none, errW_some] <;> rfl), by (with_reducible repeat (first | apply Kd.R_alloc | apply Kd.R_drewN | apply Kd.R_drew)); exact HO106.out, by repeat (first | (with_reducible first | exact HB.out | apply below_alloc | apply pw_below_drewN | apply below_drew1) | exact HB.out)⟩
  · rw [if_neg c2] at H
    exact absurd H (by simp)
theorem C_none {α : Type} {d : Kd α} {w : World} {xs : List α} (h : d.C w none xs.length xs) : xs = [] := by
  cases xs with
  | nil => rfl
  | cons x xs =>
    obtain ⟨ad, _, e, _⟩ := Kd.C_get h x 0 (by omega) (by simp)
    cases e
def bytes_Clone.f (l0 : List Int) : Option (List Int) := if l0.length < 140737488355328 then some l0 else none
set_option maxRecDepth 100000 in
theorem bytes_Clone.calls (A0 : Option Addr) (c0 : Nat) (l0 : List Int) (r : List Int) (w : World) (hr0 : Kd.C (Kd.int .u8) w A0 l0.length l0) (hc0 : l0.length ≤ c0) (h : bytes_Clone.f l0 = some r) :
    Calls Try.prog 36 #[.slice A0 l0.length c0] w fun e w' => ∃ v0_ : Value, e = .returned (v0_) ∧ Kd.R (Kd.int .u8) 5 w' w.heap.size (fun _ => True) v0_ r ∧ Below w.heap.size w w' := by
  unfold bytes_Clone.f at h
  by_cases hl : l0.length < 140737488355328
  · rw [if_pos hl] at h
    obtain rfl := Option.some.inj h
    cases A0 with
    | none =>
      obtain rfl := C_none hr0
      go_enter Try.func36, Try.ntmps36
      go_wp2
      go_ret
      exact ⟨_, rfl, Kd.R_nil _ _ _ _ _, Below.refl _ _⟩
    | some a =>
      refine bytes_CloneW.calls a c0 l0 l0 w hr0 hc0 ?_
      unfold bytes_CloneW.f
      rw [Option.bind_some, if_pos (by simpa using hl)]; rfl
  · rw [if_neg hl] at h; cases h
end Go.Proofs.Ytpfaaljmefgpbaa.Hand
end

section
set_option linter.unusedVariables false
set_option linter.unusedSimpArgs false
namespace Go.Proofs.Ytpfaaljmefgpbaa.Hand
open Go.RowKit Go.Proofs.YtpfaaljmefgpbaaW.PrintWords Go.Proofs.YtpfaaljmefgpbaaW.PrintLast Go.Proofs.YtpfaaljmefgpbaaW.PrintMore
theorem eqlNilR (w : World) (a : Option Addr) (l c : Nat) : (binOp .eql 24 (.slice a l c) (.slice none 0 0)).run Try.prog w = .ok (.bool a.isNone) w := Go.run_eql_slice_nil w _ _ a l c Try.underlying24
theorem infoRows : (Try.prog.info? 22).map (fun i => (i.zero, i.size, i.bytes)) = some (some (.slice none 0 0), 1, 24) := by kernel_rfl
attribute [local go_sem] eqlNilR
set_option maxHeartbeats 2000000 in
set_option maxRecDepth 100000 in
theorem rowsClone_calls (A0 : Option Addr) (c0 : Nat) (l0 : List (List Int)) (w : World) (hr0 : Kd.C rowK w A0 l0.length l0) (hc0 : l0.length ≤ c0) (hl : l0.length < 5864062014805) :
    Calls Try.prog 33 #[.slice A0 l0.length c0] w fun e w' => ∃ v : Value, e = .returned v ∧ Kd.N rowK 22 w' w.heap.size (fun _ => True) v l0 ∧ Below w.heap.size w w' := by
  cases A0 with
  | none =>
    obtain rfl := C_none hr0
    go_enter Try.func33, Try.ntmps33
    go_wp2
    go_ret
    exact ⟨_, rfl, Kd.N_nil _ _ _ _ _, Below.refl _ _⟩
  | some a =>
    have HF := Aside0.mk (Kd.C_F (Kd.heap_slice _ (Kd.heap_int _)) hr0)
    clear hr0
    go_enter Try.func33, Try.ntmps33
    go_wp2_with (first
      | ((with_reducible refine gate_dst (N := 5) rfl ?_); refine Kd.N_lit rowK (w0 := w) w.heap.size 22 ?hg (N' := 5) ?hd (xs := ([] : List (List Int))) (inner := []) (ok := fun _ => True) (okp := fun _ => True) ?hr (Reps.none _ _) (fun _ hk => hk) trivial (Below.refl _ _) (Nat.le_refl _) (by simp) ?_; (case hd => rfl); (case hg => rfl); (case hr => first | (go_simp; done) | (go_simp; rfl)); intro v1 w1 hN hb1 hg1 hat1; have HN := Aside0.mk hN; have HB := Aside0.mk hb1; obtain ⟨b1, hb11, hb12⟩ := hat1; have Hat := Aside0.mk hb11; have Hge := Aside0.mk hb12; clear hN hb1 hg1 hb11 hb12)
      | ((with_reducible refine gate_builtin (b := .append) (xs := #[.tmp 5, .tmp 6]) rfl ?_); at_builtin; refine Kd.N_append_rows rowK (w0 := w) w.heap.size rfl (.tmp 5) (.tmp 6) 24 22 (.slice none 0 0) 24 rfl Try.underlying24 infoRows rfl (show 0 < 1 by decide) (by omega) v1 [] l0 _ _ _ (fun _ => True) (fun k => k < w.heap.size) rfl rfl HN.out (Kd.F_below HF.out HB.out) (fun k hk => ⟨trivial, fun e => by rw [Hat.out] at e; injection e with e; have := Hge.out; omega⟩) (fun _ _ => trivial) HB.out HB.out.size (by simp; omega) ?_; intro v2 w2 hN2 hb2 _ _; rw [List.nil_append] at hN2; have HN2 := Aside0.mk hN2; have HB2 := Aside0.mk hb2; clear hN2 hb2))
    go_ret
    exact ⟨_, rfl, HN2.out, HB2.out⟩
end Go.Proofs.Ytpfaaljmefgpbaa.Hand
end

section
set_option linter.unusedVariables false
set_option linter.unusedSimpArgs false
namespace Go.Proofs.Ytpfaaljmefgpbaa.Hand
open Go.RowKit Go.Proofs.YtpfaaljmefgpbaaW.PrintWords Go.Proofs.YtpfaaljmefgpbaaW.PrintLast Go.Proofs.YtpfaaljmefgpbaaW.PrintMore
abbrev brK : Kd (List Int × List Int) := Kd.pair rowK rowK
theorem br_mk {W : World} {ok : Nat → Prop} {x : List Int × List Int} {A1 A2 : Option Addr} {c1 c2 : Nat} (h1 : x.1.length ≤ c1) (f1 : Kd.F (Kd.int .u8) W ok A1 x.1.length x.1) (h2 : x.2.length ≤ c2) (f2 : Kd.F (Kd.int .u8) W ok A2 x.2.length x.2) : Kd.FK brK W ok x [.slice A1 x.1.length c1, .slice A2 x.2.length c2] :=
  fun W' hW => ⟨[.slice A1 x.1.length c1], [.slice A2 x.2.length c2], rfl, ⟨A1, c1, rfl, h1, f1 W' hW⟩, ⟨A2, c2, rfl, h2, f2 W' hW⟩⟩
theorem br_open {W : World} {ok : Nat → Prop} {x : List Int × List Int} {cs : List Value} (h : Kd.FK brK W ok x cs) : ∃ A1 c1 A2 c2, cs = [.slice A1 x.1.length c1, .slice A2 x.2.length c2] ∧ x.1.length ≤ c1 ∧ x.2.length ≤ c2 ∧ Kd.F (Kd.int .u8) W ok A1 x.1.length x.1 ∧ Kd.F (Kd.int .u8) W ok A2 x.2.length x.2 := by
  obtain ⟨q0, q1, rfl, ⟨A1, c1, rfl, k1, _⟩, ⟨A2, c2, rfl, k2, _⟩⟩ := Kd.FK_now h
  refine ⟨A1, c1, A2, c2, rfl, k1, k2, fun W' hW => ?_, fun W' hW => ?_⟩
  · obtain ⟨r0, r1, he, ⟨B1, d1, rfl, _, g1⟩, ⟨B2, d2, rfl, _, g2⟩⟩ := h W' hW
    simp only [List.cons_append, List.nil_append, List.cons.injEq, Value.slice.injEq] at he
    rw [he.1.1]
    exact g1
  · obtain ⟨r0, r1, he, ⟨B1, d1, rfl, _, g1⟩, ⟨B2, d2, rfl, _, g2⟩⟩ := h W' hW
    simp only [List.cons_append, List.nil_append, List.cons.injEq, Value.slice.injEq] at he
    rw [he.2.1.1]
    exact g2
theorem eqlNilB (w : World) (a : Option Addr) (l c : Nat) : (binOp .eql 26 (.slice a l c) (.slice none 0 0)).run Try.prog w = .ok (.bool a.isNone) w := Go.run_eql_slice_nil w _ _ a l c Try.underlying26
theorem infoBR : (Try.prog.info? 35).map (fun i => (i.zero, i.size, i.bytes)) = some (some (.agg #[.slice none 0 0, .slice none 0 0]), 2, 48) := by kernel_rfl
attribute [local go_sem] eqlNilB
theorem C_noneB {w : World} {n : Nat} {xs : List (List Int × List Int)} (h : Kd.C brK w none n xs) : xs = [] := by
  obtain ⟨hl, _, hn⟩ := h
  cases xs with
  | nil => rfl
  | cons a t =>
    obtain ⟨ad, he, _⟩ := hn (by simp at hl; omega)
    cases he
set_option maxHeartbeats 2000000 in
set_option maxRecDepth 100000 in
theorem brClone_calls (ok : Nat → Prop) (A0 : Option Addr) (c0 : Nat) (l0 : List (List Int × List Int)) (w : World) (hr0 : Kd.F brK w ok A0 l0.length l0) (hc0 : l0.length ≤ c0) (hl : l0.length < 1000000) :
    Calls Try.prog 28 #[.slice A0 l0.length c0] w fun e w' => ∃ v : Value, e = .returned v ∧ Kd.N brK 35 w' w.heap.size (fun k => (ok k ∧ k < w.heap.size) ∨ w.heap.size ≤ k) v l0 ∧ Below w.heap.size w w' := by
  cases A0 with
  | none =>
    obtain rfl := C_noneB (Kd.F_now hr0)
    go_enter Try.func28, Try.ntmps28
    go_wp2
    go_ret
    exact ⟨_, rfl, Kd.N_nil _ _ _ _ _, Below.refl _ _⟩
  | some a =>
    have HF := Aside0.mk (Kd.F_bound hr0)
    clear hr0
    go_enter Try.func28, Try.ntmps28
    go_wp2_with (first
      | ((with_reducible refine gate_dst (N := 5) rfl ?_); refine Kd.N_lit brK (w0 := w) w.heap.size 35 ?hg (N' := 5) ?hd (xs := ([] : List (List Int × List Int))) (inner := []) (ok := fun k => (ok k ∧ k < w.heap.size) ∨ w.heap.size ≤ k) (okp := fun k => (ok k ∧ k < w.heap.size) ∨ w.heap.size ≤ k) ?hr (Reps.none _ _) (fun _ hk => hk) (Or.inr (Nat.le_refl _)) (Below.refl _ _) (Nat.le_refl _) (by simp) ?_; (case hd => rfl); (case hg => rfl); (case hr => first | (go_simp; done) | (go_simp; rfl)); intro v1 w1 hN hb1 hg1 hat1; have HN := Aside0.mk hN; have HB := Aside0.mk hb1; obtain ⟨b1, hb11, hb12⟩ := hat1; have Hat := Aside0.mk hb11; have Hge := Aside0.mk hb12; clear hN hb1 hg1 hb11 hb12)
      | ((with_reducible refine gate_builtin (b := .append) (xs := #[.tmp 5, .tmp 6]) rfl ?_); at_builtin; refine Kd.N_append_rows brK (w0 := w) w.heap.size rfl (.tmp 5) (.tmp 6) 26 35 (.agg #[.slice none 0 0, .slice none 0 0]) 48 rfl Try.underlying26 infoBR rfl (show 0 < 2 by decide) (by omega) v1 [] l0 _ _ _ (fun k => (ok k ∧ k < w.heap.size) ∨ w.heap.size ≤ k) (fun k => ok k ∧ k < w.heap.size) rfl rfl HN.out (Kd.F_below HF.out HB.out) (fun k hk => ⟨Or.inl hk, fun e => by rw [Hat.out] at e; injection e with e; have := Hge.out; omega⟩) (fun _ h => Or.inr (Nat.le_trans HB.out.size h)) HB.out HB.out.size (by simp; omega) ?_; intro v2 w2 hN2 hb2 _ _; rw [List.nil_append] at hN2; have HN2 := Aside0.mk hN2; have HB2 := Aside0.mk hb2; clear hN2 hb2))
    go_ret
    exact ⟨_, rfl, HN2.out, HB2.out⟩
end Go.Proofs.Ytpfaaljmefgpbaa.Hand
end

section
set_option linter.unusedVariables false
set_option linter.unusedSimpArgs false
namespace Go.Proofs.Ytpfaaljmefgpbaa.Hand
open Go.RowKit Go.Proofs.YtpfaaljmefgpbaaW.PrintWords Go.Proofs.YtpfaaljmefgpbaaW.PrintLast Go.Proofs.YtpfaaljmefgpbaaW.PrintMore
theorem run_copy_k {P : Program} (w : World) (dT sT ty elem : TypeId) (b o dLen dCap : Nat) (a : Addr) (sLen sCap : Nat) (cs : List Value) (k : Nat)
    (hu : P.underlying dT = some (.slice elem)) (hs : (P.info? elem).map (·.size) = some k) (hn : cs.length = Nat.min sLen dLen * k)
    (hsrc : ∀ j v, cs[j]? = some v → w.cell? (a.add j) = some v) (hc : ∀ j, j < cs.length → (w.cell? ⟨b, o + j, none⟩).isSome = true) (hf : ∀ j, j < cs.length → w.frozen? ⟨b, o + j, none⟩ = false) (h1 : ∀ v ∈ cs, v.oneCell' = true) :
    (Builtin.copy_ #[dT, sT] ty #[.slice (some ⟨b, o, none⟩) dLen dCap, .slice (some a) sLen sCap]).run P w = .ok (goInt (Nat.min sLen dLen)) (w.setCells b o cs) := by
  have hl := run_loadCells_list (P := P) w a cs hsrc
  have hst := run_storeCells_cells (P := P) b o cs 0 w (by simpa using hc) (by simpa using hf) h1
  cases hq : P.info? elem with
  | none => simp [hq] at hs
  | some i =>
    have hi : i.size = k := by simpa [hq] using hs
    rw [hn] at hl
    simp [Builtin.copy_, run_underlying hu, Builtin.lenOf, Builtin.firstCells, sizeOf, typeInfo, hq, hi, hl, hst]
theorem chunk_ins {inner vs : List Value} {n i : Nat} (hl : inner.length = n * 2) (hv : vs.length = 2) (hi : i ≤ n) (j : Nat) :
    (((inner.take (i * 2) ++ vs ++ inner.drop (i * 2)).drop (j * 2)).take 2) = if j < i then (inner.drop (j * 2)).take 2 else if j = i then vs else (inner.drop ((j - 1) * 2)).take 2 := by
  have htl : (inner.take (i * 2)).length = i * 2 := by rw [List.length_take, hl]; omega
  refine List.ext_getElem? fun t => ?_
  rw [List.getElem?_take, List.getElem?_drop]
  by_cases ht : t < 2
  · rw [if_pos ht]
    by_cases h1 : j < i
    · rw [if_pos h1, List.getElem?_take, if_pos ht, List.getElem?_drop, List.append_assoc, List.getElem?_append_left (by rw [htl]; omega), List.getElem?_take, if_pos (by omega)]
    · rw [if_neg h1]
      by_cases h2 : j = i
      · subst h2
        rw [if_pos rfl, List.append_assoc, List.getElem?_append_right (by rw [htl]; omega), htl, List.getElem?_append_left (by rw [hv]; omega)]
        congr 1; omega
      · rw [if_neg h2, List.getElem?_take, if_pos ht, List.getElem?_drop, List.getElem?_append_right (by rw [List.length_append, htl, hv]; omega), List.length_append, htl, hv, List.getElem?_drop]
        congr 1; omega
  · rw [if_neg ht]
    by_cases h1 : j < i
    · rw [if_pos h1, List.getElem?_take, if_neg ht]
    · rw [if_neg h1]
      by_cases h2 : j = i
      · rw [if_pos h2, List.getElem?_eq_none (by omega)]
      · rw [if_neg h2, List.getElem?_take, if_neg ht]
theorem lay_get {α : Type} (L : List α) (x : α) (i : Nat) (hi : i ≤ L.length) (j : Nat) : (L.take i ++ [x] ++ L.drop i)[j]? = if j < i then L[j]? else if j = i then some x else L[j - 1]? := by
  have htl : (L.take i).length = i := by rw [List.length_take]; omega
  by_cases h1 : j < i
  · rw [if_pos h1, List.append_assoc, List.getElem?_append_left (by rw [htl]; exact h1), List.getElem?_take, if_pos h1]
  · rw [if_neg h1]
    by_cases h2 : j = i
    · subst h2
      rw [if_pos rfl, List.append_assoc, List.getElem?_append_right (by rw [htl]; omega), htl, Nat.sub_self]; rfl
    · rw [if_neg h2, List.getElem?_append_right (by rw [List.length_append, htl, List.length_singleton]; omega), List.length_append, htl, List.length_singleton, List.getElem?_drop]
      congr 1; omega
theorem N_inner {W : World} {base : Nat} {ok : Nat → Prop} {v : Value} {L : List (List Int × List Int)} (h : Kd.N brK 35 W base ok v L) :
    ∃ inner, W.ownsRow base 35 2 v L.length inner ∧ ∀ (j : Nat) (x : List Int × List Int), L[j]? = some x → Kd.FK brK W (fun k => ok k ∧ some k ≠ v.ownBlock) x ((inner.drop (j * 2)).take 2) := by
  obtain ⟨h0, rows, hl, ⟨h1, inner, ho, hr⟩, hf⟩ := h
  rw [hl] at ho
  refine ⟨inner, ho, fun j x hj => ?_⟩
  have hjl : j < rows.length := by rw [hl]; exact (List.getElem?_eq_some_iff.1 hj).1
  have e := (hr.2 j _ (List.getElem?_eq_getElem hjl)).1
  have := hf j x _ hj (List.getElem?_eq_getElem hjl)
  rw [← e] at this
  exact this
theorem N_of_inner {W : World} {base : Nat} {ok : Nat → Prop} {v : Value} {L : List (List Int × List Int)} {inner : List Value} (h0 : ∀ k, v.ownBlock = some k → ok k) (ho : W.ownsRow base 35 2 v L.length inner)
    (hf : ∀ (j : Nat) (x : List Int × List Int), L[j]? = some x → Kd.FK brK W (fun k => ok k ∧ some k ≠ v.ownBlock) x ((inner.drop (j * 2)).take 2)) : Kd.N brK 35 W base ok v L := by
  have hr : Reps (fun x c => Kd.FK brK W (fun k => ok k ∧ some k ≠ v.ownBlock) x c) 2 L inner := ⟨ho.1, hf⟩
  refine ⟨h0, Kd.chunks 2 L.length inner, Kd.chunks_length _ _ _, ⟨fun k hk => hk.symm, inner, by rw [Kd.chunks_length]; exact ho, Kd.reps_raw hr (fun x c hp => ⟨brK.K_len (Kd.FK_now hp), brK.K_one (Kd.FK_now hp)⟩)⟩, fun j x c hx hc => ?_⟩
  rw [Kd.chunks_get hc]
  exact hf j x hx
theorem N_lay {W' : World} {base : Nat} {ok : Nat → Prop} {L : List (List Int × List Int)} {inner vs : List Value} {g cap i : Nat} {cur : Array Value} {x : List Int × List Int} (hl : inner.length = L.length * 2) (hi : i ≤ L.length)
    (hold : ∀ (j : Nat) (x : List Int × List Int), L[j]? = some x → Kd.FK brK W' (fun k => ok k ∧ k ≠ g) x ((inner.drop (j * 2)).take 2)) (hvs : Kd.FK brK W' (fun k => ok k ∧ k ≠ g) x vs)
    (hg : ok g) (hb : base ≤ g) (hh : W'.heap[g]? = some (.cells cur 35 (0, 0))) (hn : L.length + 1 ≤ cap) (hm : cap ≤ maxLen) (hs : cur.size = cap * 2) (hc : cur.toList.take ((L.length + 1) * 2) = inner.take (i * 2) ++ vs ++ inner.drop (i * 2)) :
    Kd.N brK 35 W' base ok (.slice (some ⟨g, 0, none⟩) (L.length + 1) cap) (L.take i ++ [x] ++ L.drop i) := by
  have hv2 : vs.length = 2 := brK.K_len (Kd.FK_now hvs)
  have hlen : (L.take i ++ [x] ++ L.drop i).length = L.length + 1 := by simp; omega
  have hob : (Value.slice (some ⟨g, 0, none⟩) (L.length + 1) cap).ownBlock = some g := rfl
  refine N_of_inner (inner := inner.take (i * 2) ++ vs ++ inner.drop (i * 2)) (fun k hk => ?_) ?_ (fun j y hj => ?_)
  · rw [hob] at hk; injection hk with hk; rw [← hk]; exact hg
  · rw [hlen]
    refine ⟨by simp [hl, hv2]; omega, .inr ⟨g, cap, cur, rfl, hb, hh, hn, hm, hs, hc⟩⟩
  · have hmo : ∀ k, (ok k ∧ k ≠ g) → ok k ∧ some k ≠ (Value.slice (some ⟨g, 0, none⟩) (L.length + 1) cap).ownBlock := fun k hk => ⟨hk.1, fun e => hk.2 (by rw [hob] at e; injection e)⟩
    rw [chunk_ins hl hv2 hi j]
    rw [lay_get L x i hi j] at hj
    by_cases h1 : j < i
    · rw [if_pos h1] at hj ⊢; exact Kd.FK_mono (hold j y hj) hmo
    · rw [if_neg h1] at hj ⊢
      by_cases h2 : j = i
      · rw [if_pos h2] at hj ⊢; injection hj with hj; rw [← hj]; exact Kd.FK_mono hvs hmo
      · rw [if_neg h2] at hj ⊢; exact Kd.FK_mono (hold (j - 1) y hj) hmo
end Go.Proofs.Ytpfaaljmefgpbaa.Hand
end
