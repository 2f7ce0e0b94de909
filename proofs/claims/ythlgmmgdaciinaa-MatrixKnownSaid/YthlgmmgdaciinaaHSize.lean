/- The contract of matrix.Size. -/
import Derived.Test.YthlgmmgdaciinaaHIdxRows
set_option linter.unusedVariables false
set_option linter.unusedSimpArgs false
namespace Go.Proofs.Ythlgmmgdaciinaa.Hand
open Go.RowKit Go.Proofs.YthlgmmgdaciinaaW.PrintWords Go.Proofs.YthlgmmgdaciinaaW.PrintLast Go.Proofs.YthlgmmgdaciinaaW.PrintMore

theorem ok_size1 : FnOk Try.prog 53 := ⟨⟨_, Try.func53, by rfl, rfl⟩⟩
set_option maxRecDepth 100000 in
theorem size1_fn (A : Option Addr) (c : Nat) (x : List Int) (n : Int) (B : Nat) (w : World) (hc : w.cell? ⟨B, 0, none⟩ = some (.int .i64 n)) :
    Calls Try.prog 53 #[.slice A x.length c, .pointer (some ⟨B, 0, none⟩)] w fun e w' => e = .returned (.bool ((x.length : Int) != n)) ∧ Below w.heap.size w w' := by
  go_enter Try.func53, Try.ntmps53
  go_wp2
  go_ret
  exact ⟨rfl, Below.refl _ _⟩
/-- the sizes of a row of rows -/
def matrix_Size.f (l0 : List (List Int)) : Option (Int × Int × Int) := if l0.length < 9223372036854775807 then (if l0.length = 0 then some (0, 0, 0) else if l0.any (fun x => (x.length : Int) != ((rdR l0 0).length : Int)) then some (0, 0, 21) else some ((l0.length : Int), ((rdR l0 0).length : Int), 0)) else none
set_option maxRecDepth 100000 in
theorem matrix_Size.calls (A0 : Option Addr) (c0 : Nat) (l0 : List (List Int)) (r1 r2 r3 : Int) (w : World) (hr0 : Kd.C (Kd.slice 5 (Kd.int .u8)) w A0 l0.length l0) (hc0 : l0.length ≤ c0) (h : matrix_Size.f l0 = some (r1, r2, r3)) :
    Calls Try.prog 33 #[.slice A0 l0.length c0] w fun e w' => e = .returned (.tuple #[.int .i64 r1, .int .i64 r2, .int .i64 r3]) ∧ Below w.heap.size w w' := by
  unfold matrix_Size.f at h
  by_cases hl : l0.length < 9223372036854775807
  · rw [if_pos hl] at h
    by_cases h0 : l0.length = 0
    · rw [if_pos h0] at h
      simp only [Option.some.injEq, Prod.mk.injEq] at h
      obtain ⟨rfl, rfl, rfl⟩ := h
      have c4b2 : ((l0.length : Int) == 0) = true := by rw [h0]; rfl
      clear hr0
      go_enter Try.func33, Try.ntmps33
      go_wp2
      go_ret3
      exact ⟨rfl, Below.refl _ _⟩
    · rw [if_neg h0] at h
      have c4b2 : ((l0.length : Int) == 0) = false := by simp; exact List.length_pos_iff.1 (by omega)
      have p0 : (0 : Int) ≤ 0 := by decide
      have q0 : (0 : Int) < (l0.length : Int) := by omega
      obtain ⟨ad, A1, c1, e1, hx1, hl1, hi1⟩ := at_R hr0 0 p0 q0
      cases e1
      have q0b := eq_true q0
      have qi0 : (0 < l0.length) = True := eq_true (by omega)
      rw [show ((0 : Int)).toNat = 0 from rfl, Addr.add_zero'] at hx1
      have HE := Aside0.mk (fun (w1 : World) (B : Nat) (hB : B < w1.heap.size) (hcell : w1.cell? ⟨B, 0, none⟩ = some (.int .i64 ((rdR l0 0).length : Int))) (a : Kd.C (Kd.slice 5 (Kd.int .u8)) w1 (some ad) l0.length l0) =>
        contains_calls (fun x => some ((x.length : Int) != ((rdR l0 0).length : Int))) (fun x => (x.length : Int) != ((rdR l0 0).length : Int)) (some ad) c0 l0 53 #[.pointer (some ⟨B, 0, none⟩)] ok_size1 w1
          (fun A c x r W hA hc hr hbW => by
            obtain rfl := Option.some.inj hr
            have := size1_fn A c x ((rdR l0 0).length : Int) B W ((hbW.cell (p := ⟨B, 0, none⟩) hB).trans hcell)
            simpa using this) a hc0 (fun x _ => rfl) hl)
      have HR0 := Aside0.mk (Kd.C_alloc hr0 (.cells #[.int .i64 ((rdR l0 0).length : Int)] 3))
      have Hh := Aside0.mk h
      clear h hr0 hi1 h0
      generalize hz : (rdR l0 0).length = z at *
      generalize ha : (l0.any fun x => (x.length : Int) != (z : Int)) = b at *
      cases b with
      | true =>
        have h := Hh.out
        rw [if_pos rfl] at h
        simp only [Option.some.injEq, Prod.mk.injEq] at h
        obtain ⟨rfl, rfl, rfl⟩ := h
        go_enter Try.func33, Try.ntmps33
        go_wp2_with (go_at_call 52; refine (HE.out _ w.heap.size (by simp) (by simp) HR0.out).mono ?_; rintro e w1 ⟨rfl, hb1⟩)
        go_ret3
        exact ⟨rfl, box_lower rfl hb1⟩
      | false =>
        have h := Hh.out
        rw [if_neg (by decide)] at h
        simp only [Option.some.injEq, Prod.mk.injEq] at h
        obtain ⟨rfl, rfl, rfl⟩ := h
        go_enter Try.func33, Try.ntmps33
        go_wp2_with (go_at_call 52; refine (HE.out _ w.heap.size (by simp) (by simp) HR0.out).mono ?_; rintro e w1 ⟨rfl, hb1⟩; have hcell := (hb1.cell (p := ⟨w.heap.size, 0, none⟩) (by simp)).trans (show (w.alloc (.cells #[.int .i64 (z : Int)] 3)).cell? ⟨w.heap.size, 0, none⟩ = some (.int .i64 (z : Int)) from by simp))
        go_quiet (fail)
        go_wp2
        go_ret3
        exact ⟨rfl, by first | exact box_lower rfl hb1 | (apply pw_below_drewN; exact box_lower rfl hb1)⟩
  · rw [if_neg hl] at h; cases h
end Go.Proofs.Ythlgmmgdaciinaa.Hand
