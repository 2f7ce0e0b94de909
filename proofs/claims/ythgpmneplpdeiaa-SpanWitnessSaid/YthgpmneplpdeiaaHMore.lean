/- More words: a cut with a capacity; in a region that draws, what holds may be told anew behind a call. -/
import Derived.Test.YthgpmneplpdeiaaHDot
set_option linter.unusedVariables false
set_option linter.unusedSimpArgs false
namespace Go.Proofs.Ythgpmneplpdeiaa.Hand
open Go.RowKit Go.Proofs.YthgpmneplpdeiaaW.PrintWords Go.Proofs.YthgpmneplpdeiaaW.PrintLast Go.Proofs.YthgpmneplpdeiaaW.PrintMore
section
variable {P : Program}
/-- xs[:j:j] -/
theorem cut_to3 (t e : TypeId) (kh : IntKind) {i : TypeInfo} (ht : P.underlying t = some (.slice e)) (hi : P.info? e = some i) (A : Option Addr) (n c : Nat) (j : Int) (h0 : 0 ≤ j) (hm : j ≤ n) (hc : n ≤ c) :
    ∀ W : World, (Instr.slice t (.slice A n c) none (some (.int kh j)) (some (.int kh j))).run P W = .ok (.slice A j.toNat j.toNat) W := by
  intro W
  have hel : P.elem t = e := by simp [Program.elem, ht]
  have hu : P.underlying t = some (.slice (P.elem t)) := by rw [hel]; exact ht
  have ha : (A.map fun x => x.add 0) = A := by cases A <;> simp [Addr.add]
  have hj : j ≤ (c : Int) := by omega
  have ej : (j.toNat : Int) = j := Int.toNat_of_nonneg h0
  simp [Instr.slice, run_underlying ht, Instr.sliceBounds, run_sliceBound, sliced, sizeOf, typeInfo, hi, h0, hj, ej, ha]
end
section
variable {P : Program} {ops : Array Oper} {Q : Exit → Act → World → Prop} {md : Region.Mode}
/-- In a region that draws (no last stores): from here on more is held. -/
theorem held_ {S S' : World → Prop} (hSS : ∀ w, S' w → S w) : ∀ {fuel : Nat} {l : Array Bool} {a : Act} {w : World}, S' w → wpAnyLast P md ops Q S' [] fuel l a w → wpAnyLast P md ops Q S [] fuel l a w
  | 0, _, _, _, _, h => h
  | fuel + 1, l, a, w, hS, h => ⟨h.1, fun i hi => wpOp_mono (fun a' w' hh => ⟨fun _ _ => hSS _ (hh.1 (by simp) hS), held_ hSS (hh.1 (by simp) hS) hh.2⟩) (h.2 i hi)⟩
theorem conv_run {oi : Oper} {a : Act} {src dst : TypeId} {x : Operand} {v s : Value} {w w' : World} (hop : oi.op = .convert src dst x) (h : (convert src dst v).run P w = .ok s w') (hx : a.eval x = v) : (execOp a.eval oi).run P w = .ok (.value s) w' := by
  subst hx
  simp [execOp, hop, h]
/-- The region's steps, where what is held is that all is as it was at the last call. -/
theorem startB_ {id n : Nat} {a : Act} {w : World} (l : Array Bool) (hm : P.follows .mixedOrders = true) (hn : ops.size = n) (hl : Array.replicate n false = l)
    (h : wpAnyLast P .any ops Q (fun x => Below w.drew.heap.size w.drew x) [] n l a w.drew) : (Code.region id ops true).wp P Q a w :=
  start_ (S := fun x => Below w.drew.heap.size w.drew x) (ds := []) l hm hn hl (Below.refl _ _) (fun _ => h)
theorem startG_ {id n : Nat} {a : Act} {w : World} (l : Array Bool) (hm : P.follows .mixedOrders = true) (hn : ops.size = n) (hl : Array.replicate n false = l)
    (h : ∀ wD, Below w.heap.size w wD → wpAnyLast P .any ops Q (fun x => Below wD.heap.size wD x) [] n l a wD) : (Code.region id ops true).wp P Q a w :=
  startB_ l hm hn hl (h _ (below_drew (Below.refl _ _)))
theorem drawn_below {w w' : World} (h : Drawn0 w w') : Below w.heap.size w w' := by
  obtain ⟨n, rfl⟩ := h
  exact pw_below_drewN (Below.refl _ _) n
theorem readB_ {i : Nat} {N : Option Tmp} {oi : Oper} {v : Value} {fuel : Nat} {l : Array Bool} {a : Act} {w : World} (l' : Array Bool) (hi : ops[i]? = some oi) (hN : oi.dst = N) (hc : takeB md ops [] l l' i = true)
    (hQ : ∀ c a w, Q (.panic c) (a.put oi.dst v) w → Q (.panic c) a w) (hy : YieldsIf P ops (fun x => Below w.heap.size w x) oi v a) {a' : Act} (ha : a.put N v = a')
    (h : wpAnyLast P md ops Q (fun x => Below w.heap.size w x) [] fuel l' a' w) : wpAnyLast P md ops Q (fun x => Below w.heap.size w x) [] (fuel + 1) l a w :=
  take_ l' hi hN hc hQ hy (Below.refl _ _) ha h
theorem oneB_ {i : Nat} {N : Option Tmp} {oi : Oper} {fuel : Nat} {l : Array Bool} {a : Act} {w : World} (l' : Array Bool) (hi : ops[i]? = some oi) (hN : oi.dst = N) (hc : readyB md ops l l' i = true)
    (h : ∀ K : Act → World → Prop, Shut (∀ a' w', Below w.heap.size w w' → wpAnyLast P md ops Q (fun x => Below w'.heap.size w' x) [] fuel l' a' w' → K a' w') → if Region.wanted oi (yielded ops a.tmps) = true then Oper.wp P oi a w K Q else K (a.put N undef) w) :
    wpAnyLast P md ops Q (fun x => Below w.heap.size w x) [] (fuel + 1) l a w :=
  one_ l' hi hN hc (by simp) (fun K hK => h K (fun a' w' hb hW => hK.out a' w' hb (fun _ => held_ (fun x hx => hb.trans (hx.mono hb.size)) (Below.refl _ _) hW)))
end
end Go.Proofs.Ythgpmneplpdeiaa.Hand
