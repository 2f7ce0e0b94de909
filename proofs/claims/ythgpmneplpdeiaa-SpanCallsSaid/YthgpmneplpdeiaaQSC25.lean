/- QSC, part 25: PT PlWit PQ0. -/
import Derived.Test.YthgpmneplpdeiaaQSC1
import Derived.Test.YthgpmneplpdeiaaQSC2
import Derived.Test.YthgpmneplpdeiaaQSC3
import Derived.Test.YthgpmneplpdeiaaQSC4
import Derived.Test.YthgpmneplpdeiaaQSC5
import Derived.Test.YthgpmneplpdeiaaQSC8
import Derived.Test.YthgpmneplpdeiaaQSC9
import Derived.Test.YthgpmneplpdeiaaQSC20
import Derived.Test.YthgpmneplpdeiaaQSC23
import Derived.Test.YthgpmneplpdeiaaQSC24
import Derived.Test.YthgpmneplpdeiaaProg
import Derived.Below
import Derived.Deep.Draws
import Derived.Deep.AppendLies
import Derived.Maps.AppendAt
import Derived.OwnWalk
import Derived.Laws.BytesArg
import Derived.Laws.MakeOwn
import Derived.Laws.OwnMore
import Derived.Deep.OwnRows
import Derived.Tactics
import Derived.Lib.ConvBytes
import Derived.Laws.Slices
import Derived.WalkKit
import Derived.KernelRfl
import Derived.RowKit3
import Derived.Deep.LoopGhost
import Derived.Deep.QuietTactic
import Derived.BigQuiet
import Derived.WideLaws
import Derived.Deep.DeepCutAuto
import Derived.Deep.CutBlock
import Derived.Deep.RegionHeld3
import Derived.Laws.Rows
import Derived.Lib.AppendStr
import Derived.ArgAppend
import Derived.Laws.IdiomCopy
import Derived.OrdersHeld
import Derived.Laws.BitsLemmas
import Derived.RowKit

section
namespace Go.Proofs.Ythgpmneplpdeiaa.PT
open Go.Proofs.Ythgpmneplpdeiaa.Hand Go.Proofs.Ythgpmneplpdeiaa.P Go.RowKit Go.Proofs.YthgpmneplpdeiaaW.PrintWords Go.Proofs.YthgpmneplpdeiaaW.PrintLast Go.Proofs.YthgpmneplpdeiaaW.PrintMore
attribute [local go_sem] max2_int min2_int max_two min_two max_three min_three max_four min_four   -- for this text's walks alone
set_option linter.unusedVariables false
set_option linter.unusedSimpArgs false
end Go.Proofs.Ythgpmneplpdeiaa.PT
end

section
namespace Go.Proofs.Ythgpmneplpdeiaa.Plain
open Go.Proofs.Ythgpmneplpdeiaa.Hand Go.Proofs.Ythgpmneplpdeiaa.GF Go.Proofs.Ythgpmneplpdeiaa.LA Go.RowKit Go.Proofs.Ythgpmneplpdeiaa.P Go.Proofs.YthgpmneplpdeiaaW.PrintWords Go.Proofs.YthgpmneplpdeiaaW.PrintLast
theorem rk_append {n : Nat} {l m : List V} (hl : AllSupp n l) (hm : AllSupp n m) : rk n (l ++ m) ≤ rk n l + rk n m := by
  obtain ⟨r, p, hr, e, _⟩ := exists_red n l hl
  obtain ⟨s, q, hs, e2, _⟩ := exists_red n m hm
  have hr2 := hl.of_le e.ge
  have hs2 := hm.of_le e2.ge
  rw [rk_eq hl hr e, rk_eq hm hs e2, rk_congr (hr2.append hs2) (SpEq.append e e2)]
  have := rk_le_length (hr2.append hs2)
  rwa [List.length_append] at this
def filled (l : List Int) (n : Nat) : List Int := l.take (min l.length n) ++ (List.replicate n (0 : Int)).drop (min l.length n)
theorem rk_snoc {n : Nat} {l : List V} {v : V} (hl : AllSupp n l) (hv : Supp n v) (h : ¬ Sp l v) : rk n (l ++ [v]) = rk n l + 1 := by
  have h1 : AllSupp n [v] := fun x hx => by rw [List.mem_singleton.1 hx]; exact hv
  have h2 := rk_append hl h1
  have h3 := rk_le_length h1
  rw [List.length_singleton] at h3
  have h4 : ¬ rk n (l ++ [v]) ≤ rk n l := fun q => h ((eq_of_rk (hl.append h1) (SpLe.left _ _) q).ge _ (.mem (List.mem_append_right _ (List.mem_singleton.2 rfl))))
  omega
def oneAt (n i : Nat) : List Int := (List.replicate n (0 : Int)).set i 1
end Go.Proofs.Ythgpmneplpdeiaa.Plain
end

section
namespace Go.Proofs.Ythgpmneplpdeiaa.PQ
open Go.Proofs.Ythgpmneplpdeiaa.Hand Go.Proofs.Ythgpmneplpdeiaa.P Go.RowKit Go.Proofs.YthgpmneplpdeiaaW.PrintWords Go.Proofs.YthgpmneplpdeiaaW.PrintLast Go.Proofs.YthgpmneplpdeiaaW.PrintMore
attribute [local go_sem] max2_int min2_int max_two min_two max_three min_three max_four min_four   -- for this text's walks alone
set_option linter.unusedVariables false
set_option linter.unusedSimpArgs false
def errW : Option Int → Value
  | none => .nilIface
  | some c => .iface 0 (.int .i64 c)
theorem errW_none : errW none = .nilIface := rfl
theorem errW_some (c : Int) : errW (some c) = .iface 0 (.int .i64 c) := rfl
theorem info23 : (Try.prog.info? 23).map (fun i => (i.zero, i.size, i.bytes)) = some (some (.slice none 0 0), 1, 24) := by kernel_rfl
-- the values' own types
def rd_L1 (xs : List (List Int)) (i : Int) : (List Int) := xs.getD i.toNat ([] : List Int)
theorem at_L1 {w : World} {A : Option Addr} {n : Nat} {xs : List (List Int)} (h : Kd.C (Kd.slice 5 (Kd.int .u8)) w A n xs) (i : Int) (h0 : 0 ≤ i) (h1 : i < n) : ∃ ad A0 c0, A = some ad ∧ w.cell? (ad.add i.toNat) = some (.slice A0 (rd_L1 xs i).length c0) ∧ (rd_L1 xs i).length ≤ c0 ∧ (Kd.int .u8).C w A0 (rd_L1 xs i).length (rd_L1 xs i) := by
  obtain ⟨ad, c, e, _, hK, hc0⟩ := Kd.C_get h ([] : List Int) i h0 h1
  have hc : ∀ j u, c[j]? = some u → w.cell? (ad.add (i.toNat * 1 + j)) = some u := hc0
  obtain ⟨A0, c0, rfl, l0, g0⟩ := hK
  exact ⟨ad, A0, c0, e, by have hq := hc 0 _ rfl; rwa [Nat.mul_one, Nat.add_zero] at hq, l0, g0⟩
end Go.Proofs.Ythgpmneplpdeiaa.PQ
end
