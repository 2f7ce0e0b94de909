/- A matrix that is being reduced (matrix.work): where it lies, and what a store does to it. -/
import Derived.Test.YthgpmneplpdeiaaHMore
set_option linter.unusedVariables false
set_option linter.unusedSimpArgs false
namespace Go.Proofs.Ythgpmneplpdeiaa.Hand
open Go.RowKit Go.Proofs.YthgpmneplpdeiaaW.PrintWords Go.Proofs.YthgpmneplpdeiaaW.PrintLast Go.Proofs.YthgpmneplpdeiaaW.PrintMore
/-- the kind of a row of bytes -/
abbrev rowK : Kd (List Int) := Kd.slice 5 (Kd.int .u8)
/-- In W the work lies in block B; its rows lie in block G and read as L; dn of them are done; nothing older than w0 has turned. -/
structure WorkIs (w0 W : World) (B G cap : Nat) (L : List (List Int)) (dn : Nat) : Prop where
  blk : W.heap[B]? = some (.cells #[.slice (some ⟨G, 0, none⟩) L.length cap, .int .i64 (dn : Int)] 74 (0, 0))
  ge : w0.heap.size ≤ B
  rows : Kd.N rowK 23 W w0.heap.size (fun k => k ≠ B) (.slice (some ⟨G, 0, none⟩) L.length cap) L
  below : Below w0.heap.size w0 W
/-- A row that reads as x, with its blocks apart from the work's. -/
def RowAt (W : World) (B G : Nat) (A : Option Addr) (c : Nat) (x : List Int) : Prop := x.length ≤ c ∧ Kd.F (Kd.int .u8) W (fun k => k ≠ B ∧ k ≠ G) A x.length x
namespace WorkIs
variable {w0 W W' : World} {B G cap : Nat} {L : List (List Int)} {dn : Nat}
theorem gb (h : WorkIs w0 W B G cap L dn) : G ≠ B := h.rows.1 G (by simp [Value.ownBlock])
theorem cell0 (h : WorkIs w0 W B G cap L dn) : W.cell? ⟨B, 0, none⟩ = some (.slice (some ⟨G, 0, none⟩) L.length cap) := by simp [World.cell?, h.blk]
theorem cell1 (h : WorkIs w0 W B G cap L dn) : W.cell? ⟨B, 1, none⟩ = some (.int .i64 (dn : Int)) := by simp [World.cell?, h.blk]
theorem free (h : WorkIs w0 W B G cap L dn) (j : Nat) : W.frozen? ⟨B, j, none⟩ = false := by simp [World.frozen?, h.blk]
theorem row (h : WorkIs w0 W B G cap L dn) (i : Nat) (hi : i < L.length) : ∃ A c, W.cell? ⟨G, i, none⟩ = some (.slice A L[i].length c) ∧ W.frozen? ⟨G, i, none⟩ = false ∧ RowAt W B G A c L[i] := by
  obtain ⟨c, hcl, hK, hcc, hfr⟩ := Kd.N_elem h.rows [] (i : Int) (by omega) (by omega)
  obtain ⟨A, cc, rfl, hl, hF⟩ := Kd.FK_slice_open hK
  have h0 := hcc 0 _ rfl
  have h1 := hfr 0
  simp only [Int.toNat_natCast, show (rowK).sz = 1 from rfl, Nat.mul_one, Nat.add_zero] at h0 h1
  have e : L.getD i [] = L[i] := by rw [List.getD_eq_getElem?_getD, List.getElem?_eq_getElem hi]; rfl
  rw [Int.toNat_natCast, e] at hF hl
  rw [e] at h0
  exact ⟨A, cc, h0, h1, hl, hF⟩
theorem heap_lt' {W : World} {k : Nat} {o : Obj} (h : W.heap[k]? = some o) : k < W.heap.size := by
  rcases Nat.lt_or_ge k W.heap.size with h1 | h1
  · exact h1
  · rw [Array.getElem?_eq_none h1] at h; cases h
theorem step (h : WorkIs w0 W B G cap L dn) (hb : Below W.heap.size W W') : WorkIs w0 W' B G cap L dn :=
  ⟨(hb.block B (heap_lt' h.blk)).trans h.blk, h.ge, Kd.N_below h.rows hb, h.below.trans (hb.mono h.below.size)⟩
theorem put (h : WorkIs w0 W B G cap L dn) (i : Nat) (hi : i < L.length) {A : Option Addr} {c : Nat} {x : List Int} (hx : RowAt W B G A c x) : WorkIs w0 (W.setCell ⟨G, i, none⟩ (.slice A x.length c)) B G cap (L.set i x) dn := by
  obtain ⟨A0, c0, h0, _, _⟩ := h.row i hi
  obtain ⟨h2, h3⟩ := Kd.N_seg h.rows (i : Int) (by omega) (by omega) (c := [.slice A0 L[i].length c0]) (seg := [.slice A x.length c]) (j := 0) (x' := x) (okp := fun k => k ≠ B ∧ k ≠ G) rfl
    (fun j u hu => by
      cases j with
      | zero =>
        have : Value.slice A0 L[i].length c0 = u := by simpa using hu
        subst this
        simpa [rowK, Kd.slice] using h0
      | succ j => simp at hu) (Nat.le_refl 1)
    (show Kd.FK rowK W _ x [.slice A x.length c] from Kd.FK_slice_mk hx.1 hx.2) (fun k hk => hk)
  have e : W.setCells G ((i : Int).toNat * (rowK).sz + 0) [.slice A x.length c] = W.setCell ⟨G, i, none⟩ (.slice A x.length c) := by
    simp [World.setCells, rowK, Kd.slice]
  rw [e, Int.toNat_natCast] at h2
  rw [e] at h3
  have hg : w0.heap.size ≤ G := Kd.N_base h.rows G (by simp [Value.ownBlock])
  refine ⟨?_, h.ge, by rw [List.length_set]; exact h2, h.below.setCell hg _⟩
  rw [Below.heap_setCell _ _ _ _ (Ne.symm h.gb), List.length_set]
  exact h.blk
theorem count (h : WorkIs w0 W B G cap L dn) : WorkIs w0 (W.setCell ⟨B, 1, none⟩ (.int .i64 ((dn + 1 : Nat) : Int))) B G cap L (dn + 1) := by
  refine ⟨?_, h.ge, Kd.N_far h.rows (fun k hk => hk) _, h.below.setCell h.ge _⟩
  simp only [World.setCell, Array.getElem?_modify, if_true, h.blk, Option.map_some]
  simp
end WorkIs
namespace RowAt
variable {W W' : World} {B G : Nat} {A : Option Addr} {c : Nat} {x : List Int}
theorem len (h : RowAt W B G A c x) : x.length ≤ c := h.1
theorem reads (h : RowAt W B G A c x) : Kd.C (Kd.int .u8) W A x.length x := Kd.F_now h.2
theorem step (h : RowAt W B G A c x) (hb : Below W.heap.size W W') : RowAt W' B G A c x := ⟨h.1, Kd.F_below h.2 hb⟩
theorem setG (h : RowAt W B G A c x) (i : Nat) (u : Value) : RowAt (W.setCell ⟨G, i, none⟩ u) B G A c x := ⟨h.1, Kd.F_far h.2 (fun k hk => hk.2) u⟩
theorem setB (h : RowAt W B G A c x) (i : Nat) (u : Value) : RowAt (W.setCell ⟨B, i, none⟩ u) B G A c x := ⟨h.1, Kd.F_far h.2 (fun k hk => hk.1) u⟩
/-- a new row is apart from the work -/
theorem fresh {w0 : World} {cap : Nat} {L : List (List Int)} {dn e : Nat} {v : Value} (h : WorkIs w0 W B G cap L dn) (hr : Kd.R (Kd.int .u8) e W' W.heap.size (fun _ => True) v x) : ∃ A c, v = .slice A x.length c ∧ RowAt W' B G A c x := by
  obtain ⟨A, c, rfl, hl, _⟩ := Kd.R_reads hr
  refine ⟨A, c, rfl, hl, Kd.R_F (Kd.R_mono (Kd.R_bound hr) fun k hk => ?_)⟩
  have h1 := WorkIs.heap_lt' h.blk
  have h2 := Kd.N_lt h.rows G (by simp [Value.ownBlock])
  exact ⟨by omega, by omega⟩
end RowAt
end Go.Proofs.Ythgpmneplpdeiaa.Hand
