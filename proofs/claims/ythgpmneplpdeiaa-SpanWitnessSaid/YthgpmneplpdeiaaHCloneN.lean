/- The contract of slices.Clone over rows of rows: a new row of rows whose rows are those that came in. -/
import Derived.Test.YthgpmneplpdeiaaHRed
import Derived.Test.YthgpmneplpdeiaaHClone
set_option linter.unusedVariables false
set_option linter.unusedSimpArgs false
namespace Go.Proofs.Ythgpmneplpdeiaa.Hand
open Go.RowKit Go.Proofs.YthgpmneplpdeiaaW.PrintWords Go.Proofs.YthgpmneplpdeiaaW.PrintLast Go.Proofs.YthgpmneplpdeiaaW.PrintMore
theorem eqlNilR (w : World) (a : Option Addr) (l c : Nat) : (binOp .eql 22 (.slice a l c) (.slice none 0 0)).run Try.prog w = .ok (.bool a.isNone) w := Go.run_eql_slice_nil w _ _ a l c Try.underlying22
theorem infoRows : (Try.prog.info? 23).map (fun i => (i.zero, i.size, i.bytes)) = some (some (.slice none 0 0), 1, 24) := by kernel_rfl
attribute [local go_sem] eqlNilR
set_option maxHeartbeats 2000000 in
set_option maxRecDepth 100000 in
theorem rowsClone_calls (A0 : Option Addr) (c0 : Nat) (l0 : List (List Int)) (w : World) (hr0 : Kd.C rowK w A0 l0.length l0) (hc0 : l0.length ≤ c0) (hl : l0.length < 5864062014805) :
    Calls Try.prog 47 #[.slice A0 l0.length c0] w fun e w' => ∃ v : Value, e = .returned v ∧ Kd.N rowK 23 w' w.heap.size (fun _ => True) v l0 ∧ Below w.heap.size w w' := by
  cases A0 with
  | none =>
    obtain rfl := C_none hr0
    go_enter Try.func47, Try.ntmps47
    go_wp2
    go_ret
    exact ⟨_, rfl, Kd.N_nil _ _ _ _ _, Below.refl _ _⟩
  | some a =>
    have HF := Aside0.mk (Kd.C_F (Kd.heap_slice _ (Kd.heap_int _)) hr0)
    clear hr0
    go_enter Try.func47, Try.ntmps47
    go_wp2_with (first
      | ((with_reducible refine gate_dst (N := 5) rfl ?_); refine Kd.N_lit rowK (w0 := w) w.heap.size 23 ?hg (N' := 5) ?hd (xs := ([] : List (List Int))) (inner := []) (ok := fun _ => True) (okp := fun _ => True) ?hr (Reps.none _ _) (fun _ hk => hk) trivial (Below.refl _ _) (Nat.le_refl _) (by simp) ?_; (case hd => rfl); (case hg => rfl); (case hr => first | (go_simp; done) | (go_simp; rfl)); intro v1 w1 hN hb1 hg1 hat1; have HN := Aside0.mk hN; have HB := Aside0.mk hb1; obtain ⟨b1, hb11, hb12⟩ := hat1; have Hat := Aside0.mk hb11; have Hge := Aside0.mk hb12; clear hN hb1 hg1 hb11 hb12)
      | ((with_reducible refine gate_builtin (b := .append) (xs := #[.tmp 5, .tmp 6]) rfl ?_); at_builtin; refine Kd.N_append_rows rowK (w0 := w) w.heap.size rfl (.tmp 5) (.tmp 6) 22 23 (.slice none 0 0) 24 rfl Try.underlying22 infoRows rfl (show 0 < 1 by decide) (by omega) v1 [] l0 _ _ _ (fun _ => True) (fun k => k < w.heap.size) rfl rfl HN.out (Kd.F_below HF.out HB.out) (fun k hk => ⟨trivial, fun e => by rw [Hat.out] at e; injection e with e; have := Hge.out; omega⟩) (fun _ _ => trivial) HB.out HB.out.size (by simp; omega) ?_; intro v2 w2 hN2 hb2 _ _; rw [List.nil_append] at hN2; have HN2 := Aside0.mk hN2; have HB2 := Aside0.mk hb2; clear hN2 hb2))
    go_ret
    exact ⟨_, rfl, HN2.out, HB2.out⟩
end Go.Proofs.Ythgpmneplpdeiaa.Hand
