/- QTB, part 31: RowTopBasis. -/
import Derived.Test.YtpfaaljmefgpbaaQTB29
import Derived.Test.YtpfaaljmefgpbaaQTB30
import Derived.Test.YtpfaaljmefgpbaaRows
import Derived.WalkKit
import Derived.ProofKit
import Derived.OpenShut
import Derived.ShutString
import Derived.ChangeOld
import Derived.Below
import Derived.SizedLaws

section
namespace Go.Proofs.Ytpfaaljmefgpbaa.topBasis
open Go.ChangeShapes Go.WideShapes Go.ChangeAt Go.RowKit Go.Joins Go.Proofs.Ytpfaaljmefgpbaa.Hand Go.Proofs.YtpfaaljmefgpbaaW.PrintWords
set_option linter.unusedVariables false
theorem own : ownKnob Try.prog.godebug = none := by kernel_rfl
theorem laidOut : laidOutB Try.prog = true := by kernel_rfl
set_option maxRecDepth 100000 in
theorem lifted (os : Os) (started : os.Started) (H : Type) (enc : TypeId × Value → H) :
    ReturnsInHanded {} Try.checked os 3 .any (Rows.topBasisSpec.pre6 enc Try.prog Try.f3 Rows.topBasisRow.domain false) (Rows.topBasisSpec.post enc Try.prog Try.f3 false true false false) := by
  refine returnsInHanded_of_change_sized (C := Try.checked) own started (by kernel_rfl) Try.func3
    (ChangeSpec.witness6 (enc := enc) (C := Try.checked) false ⟨#[], #[.slice none 0 0, .agg #[.int .u8 0, .int .u8 0], .slice none 0 0, .slice none 0 0], []⟩ 8 (by kernel_rfl) (by kernel_rfl) (by kernel_rfl) (by kernel_rfl)) ?_
  intro W base args ds gs before hval0 hW hcnd hsz0 _
  have hsz : (DataW.weightsEach Try.prog (Try.f3.params.toList ++ Rows.topBasisSpec.plain.varTypes Try.prog) (ds ++ gs)).all (· ≤ reachBytes) = true := hsz0
  have hval : ∀ (j : Nat) t v, Try.f3.params[j]? = some t → args[j]? = some v → Value.okWide Try.prog W .any base t v := hval0
  have hW' := hW
  obtain ⟨p, q, hA0, hV, rfl, hfz, hnd⟩ := hW
  have hA : DataW.TrodAll enc Try.prog W 0 (fun _ => true) true Try.f3.params.toList args.toList ds p := hA0
  rw [Try.params3] at hA hval hsz
  obtain ⟨v0, vs0, d0, ds0, p0, q0, hargs, rfl, rfl, h0, r0⟩ := trodAll_cons hA
  obtain ⟨v1, vs1, d1, ds1, p1, q1, rfl, rfl, rfl, h1, r1⟩ := trodAll_cons r0
  obtain ⟨v2, vs2, d2, ds2, p2, q2, rfl, rfl, rfl, h2, r2⟩ := trodAll_cons r1
  obtain ⟨v3, vs3, d3, ds3, p3, q3, rfl, rfl, rfl, h3, r3⟩ := trodAll_cons r2
  obtain ⟨rfl, rfl, rfl⟩ := trodAll_nil r3
  obtain rfl : args = #[v0, v1, v2, v3] := by cases args; simp_all
  obtain ⟨rfl, rfl⟩ := trodVars_none hV
  have k0 := h0
  have lt0 : ∀ x ∈ p0, x.block < W.heap.size := by obtain ⟨m, hm⟩ := k0; exact DataW.trod_lt m _ _ _ hm
  obtain ⟨A0, c0, l0, rfl, hl0, hC0, hwf0, es0, sp0, hd0⟩ := open_bytes Try.underlying22 Try.underlying5 (by kernel_rfl) (hval 0 22 v0 rfl rfl) h0
  have hlen0 : l0.length ≤ 140737488351232 := by
    rcases hd0 with ⟨_, e⟩ | ⟨e, e2⟩
    · rw [e]; simp
    · have z := sized_slice hsz (j := 0) (t := 22) rfl (by rw [e]; rfl) Try.underlying22
      rw [show Try.prog.bytesOf 5 = 1 from by kernel_rfl] at z
      simp only [reachBytes] at z; omega
  have k1 := h1
  have lt1 : ∀ x ∈ p1, x.block < W.heap.size := by obtain ⟨m, hm⟩ := k1; exact DataW.trod_lt m _ _ _ hm
  obtain ⟨l1, rfl, hl1, hwf1⟩ := open_array (n := 2) Try.underlying23 Try.underlying5 (by kernel_rfl) (by kernel_rfl) (hval 1 23 v1 rfl rfl) h1
  have k2 := h2
  have lt2 : ∀ x ∈ p2, x.block < W.heap.size := by obtain ⟨m, hm⟩ := k2; exact DataW.trod_lt m _ _ _ hm
  obtain ⟨A2, c2, l2, rfl, hl2, hC2, hwf2, hrow2, es2, sp2, hd2⟩ := open_rows Try.underlying24 Try.underlying22 Try.underlying5 (by kernel_rfl) (by kernel_rfl) (hval 2 24 v2 rfl rfl) h2
  have hlen2 : l2.length * 24 ≤ 140737488351232 := by
    rcases hd2 with ⟨_, e⟩ | ⟨e, e2, _⟩
    · rw [e]; simp
    · have z := sized_slice hsz (j := 2) (t := 24) rfl (by rw [e]; rfl) Try.underlying24
      rw [show Try.prog.bytesOf 22 = 24 from by kernel_rfl] at z
      simp only [reachBytes] at z; omega
  have hrowlen2 : ∀ y ∈ l2, y.length ≤ 140737488351232 := by
    rcases hd2 with ⟨_, e⟩ | ⟨e, _, e2⟩
    · rw [e]; simp
    · exact sized_rows hsz (j := 2) (t := 24) rfl (by rw [e]; rfl) Try.underlying24 Try.underlying22 (by kernel_rfl) e2
  have k3 := h3
  have lt3 : ∀ x ∈ p3, x.block < W.heap.size := by obtain ⟨m, hm⟩ := k3; exact DataW.trod_lt m _ _ _ hm
  obtain ⟨A3, c3, l3, rfl, hl3, hC3, hwf3, es3, sp3, hd3⟩ := open_bytes Try.underlying22 Try.underlying5 (by kernel_rfl) (hval 3 22 v3 rfl rfl) h3
  have hlen3 : l3.length ≤ 140737488351232 := by
    rcases hd3 with ⟨_, e⟩ | ⟨e, e2⟩
    · rw [e]; simp
    · have z := sized_slice hsz (j := 3) (t := 22) rfl (by rw [e]; rfl) Try.underlying22
      rw [show Try.prog.bytesOf 5 = 1 from by kernel_rfl] at z
      simp only [reachBytes] at z; omega
  clear hA0 hval0 hsz0 hsz
  refine (Plain.top_calls A0 c0 l0 l1 A2 c2 l2 A3 c3 l3 W hC0 hl0 hwf0 hl1 hwf1 hC2 hl2 hwf2 hC3 hl3 hwf3).mono fun e W' ⟨he, bel⟩ => ?_
  subst he
  exact ⟨_, rfl, _, _, _, [], _, [], hW', trodAll_mk1 (shut_bool Try.underlying4 _), (trodAll_cons_mk (Below.trod laidOut (by kernel_rfl) (of_decide_eq_true (by kernel_rfl)) k0 bel lt0) (trodAll_cons_mk (Below.trod laidOut (by kernel_rfl) (of_decide_eq_true (by kernel_rfl)) k1 bel lt1) (trodAll_cons_mk (Below.trod laidOut (by kernel_rfl) (of_decide_eq_true (by kernel_rfl)) k2 bel lt2) (trodAll_cons_mk (Below.trod laidOut (by kernel_rfl) (of_decide_eq_true (by kernel_rfl)) k3 bel lt3) trodAll_mk0)))), rfl, bel.frame _, fun h => by cases h⟩
theorem over : Rows.topBasisRow.holds Try.pinned (OpenSpec.ofChange Rows.topBasisSpec) :=
  OpenClaim.holds_of_wide 3 Try.f3 rfl rfl rfl rfl rfl rfl rfl ⟨rfl, rfl, rfl, rfl, rfl⟩ rfl rfl rfl rfl rfl (by kernel_rfl) Try.func3 (by kernel_rfl)
    (of_decide_eq_true (by kernel_rfl)) (by unfold Func.isWrapper; first | (rw [if_pos (by decide +kernel)]; kernel_rfl) | (rw [if_neg (by decide +kernel)]; exact ⟨rfl, rfl⟩))
    (fun os started H enc _ => lifted os started H enc)
theorem proved : Rows.TopBasisSaid := over
#print axioms proved
end Go.Proofs.Ytpfaaljmefgpbaa.topBasis
namespace Go.Proofs.Ytpfaaljmefgpbaa
theorem topBasis_holds : Rows.TopBasisSaid := topBasis.proved
end Go.Proofs.Ytpfaaljmefgpbaa
end
