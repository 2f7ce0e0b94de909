/- QTB, part 8: HDot HMore HWork HClear. -/
import Derived.Test.YtpfaaljmefgpbaaQTB6
import Derived.Test.YtpfaaljmefgpbaaQTB7

section
set_option linter.unusedVariables false
set_option linter.unusedSimpArgs false
namespace Go.Proofs.Ytpfaaljmefgpbaa.Hand
open Go.RowKit Go.Proofs.YtpfaaljmefgpbaaW.PrintWords Go.Proofs.YtpfaaljmefgpbaaW.PrintLast Go.Proofs.YtpfaaljmefgpbaaW.PrintMore
attribute [local go_sem] max2_int min2_int max_two min_two max_three min_three max_four min_four
def slices_IndexFunc_byte_byte.l0 (ff : Int → Option Bool) : Nat → List Int → Int → Int → Option (Int)
  | 0, _, _, _ => none
  | k + 1, x0, x7, x8 => if x8 < x7 then (if 0 ≤ x8 then (if x8 < (x0.length : Int) then ((ff (rd x0 x8)).bind fun t102 => (if t102 = true then (some x8) else (slices_IndexFunc_byte_byte.l0 ff k x0 x7 (wrap64 (x8 + 1))))) else (none)) else (none)) else (some (-1))
def slices_IndexFunc_byte_byte.f (ff : Int → Option Bool) (k : Nat) (l0 : List Int)  : Option (Int) := slices_IndexFunc_byte_byte.l0 ff k l0 (l0.length : Int) 0
set_option maxHeartbeats 8000000 in
set_option maxRecDepth 100000 in
theorem slices_IndexFunc_byte_byte.calls (ff : Int → Option Bool) (k : Nat) (A0 : Option Addr) (c0 : Nat) (l0 : List Int) (g : FuncId) (lb : Array Value) (hg : FnOk Try.prog g) (r : Int) (w : World) (hF : ∀ (x : Int) (r : Bool) (W : World), ff x = some r → Calls Try.prog g (#[.int .u8 x] ++ lb) W fun e w2 => e = .returned (.bool r) ∧ Drawn0 W w2) (hr0 : Kd.C (Kd.int .u8) w A0 l0.length l0) (hc0 : l0.length ≤ c0) (h : slices_IndexFunc_byte_byte.f ff k l0 = some r) :
    Calls Try.prog 46 #[.slice A0 l0.length c0, .func (.func g) #[] lb] w fun e w' => e = .returned (.int .i64 r) ∧ Drawn0 w w' := by
  have HR0 := Aside0.mk hr0
  have HC0 := Aside0.mk hc0
  clear hr0 hc0
  have HF := Aside0.mk hF
  clear hF
  have HG := Aside0.mk hg
  clear hg
  have H : (slices_IndexFunc_byte_byte.l0 ff k l0 (l0.length : Int) 0) = some r := h
  clear h
  have H' := Aside0.mk H
  clear H
  go_enter Try.func46, Try.ntmps46
  go_wp2
  go_loopg [8] k (fun kq v8 w' => ∃ (x8_1 : Int), v8 = .int .i64 x8_1 ∧ Aside0 (slices_IndexFunc_byte_byte.l0 ff kq l0 (l0.length : Int) x8_1 = some r) ∧ Aside0 (kq ≤ k) ∧ Drawn0 w w')
  case atStart => exact ⟨(0), (by first | rfl | (simp; done) | (simp [*]; done)), H', ⟨Nat.le_refl _⟩, by repeat (first | exact Drawn0.refl _ | apply Drawn0.step)⟩
  case round =>
    clear H'
    try clear p2
    obtain ⟨x8_1, rfl, HA, HK1, ⟨m1, rfl⟩⟩ := hrel
    cases gk with
    | zero => exact absurd HA.out (by simp [slices_IndexFunc_byte_byte.l0])
    | succ k1 =>
      have H := HA.out
      clear HA
      simp only [slices_IndexFunc_byte_byte.l0] at H
      by_cases c3 : x8_1 < (l0.length : Int)
      · rw [if_pos c3] at H
        have c3b0 : decide (x8_1 < (l0.length : Int)) = true := decide_eq_true c3
        clear c3
        by_cases c4 : 0 ≤ x8_1
        · rw [if_pos c4] at H
          have c4b0 : decide (0 ≤ x8_1) = true := decide_eq_true c4
          clear c4
          by_cases c5 : x8_1 < (l0.length : Int)
          · rw [if_pos c5] at H
            have c5b0 : decide (x8_1 < (l0.length : Int)) = true := decide_eq_true c5
            clear c5
            replace H := Option.bind_eq_some_iff.mp H
            obtain ⟨t102, A60, H⟩ := H
            replace H : (if t102 = true then (some x8_1) else (slices_IndexFunc_byte_byte.l0 ff k1 l0 (l0.length : Int) (wrap64 (x8_1 + 1)))) = some r := H
            have A6 := Aside0.mk A60
            clear A60
            by_cases c7 : t102 = true
            · subst c7
              have H1 : (some x8_1) = some r := by rw [if_pos rfl] at H; exact H
              clear H
              have H := H1
              clear H1
              obtain rfl := Option.some.inj H
              have p101 : 0 ≤ (x8_1 : Int) := of_decide_eq_true (by first | (with_reducible assumption) | assumption)
              have q101 : x8_1 < (l0.length : Int) := of_decide_eq_true (by first | (with_reducible assumption) | assumption)
              obtain ⟨ad101, e101, hx101_0⟩ := Kd.at_int HR0.out x8_1 p101 q101
              cases e101
              replace p101 := eq_true p101
              replace q101 := eq_true q101
              go_wp2_with (first | (refine goesVL_ (some 16) rfl rfl HG.out (.tmp 11) lb (by rfl) #[.int .u8 (rd l0 x8_1)] rfl (by (try simp only [List.map_toArray, List.map_cons, List.map_nil]); first | done | rfl | (simp only [List.length_drop, List.length_take]; rfl)) ?_; (with_reducible refine (HF.out (rd l0 x8_1) true _ A6.out).mono ?_); rintro e w' ⟨rfl, ⟨nd, rfl⟩⟩; refine ⟨_, rfl, ?_⟩))
              go_ret
              exact ⟨by first | rfl | (simp; done) | (simp [*]; done), by repeat (first | exact Drawn0.refl _ | apply Drawn0.step)⟩
            · replace c7 := Bool.eq_false_iff.mpr c7
              subst c7
              have H1 : (slices_IndexFunc_byte_byte.l0 ff k1 l0 (l0.length : Int) (wrap64 (x8_1 + 1))) = some r := by rw [if_neg (show ¬ (false = true) by decide)] at H; exact H
              clear H
              have H := H1
              clear H1
              have H' := Aside0.mk H
              clear H
              have p101 : 0 ≤ (x8_1 : Int) := of_decide_eq_true (by first | (with_reducible assumption) | assumption)
              have q101 : x8_1 < (l0.length : Int) := of_decide_eq_true (by first | (with_reducible assumption) | assumption)
              obtain ⟨ad101, e101, hx101_0⟩ := Kd.at_int HR0.out x8_1 p101 q101
              cases e101
              replace p101 := eq_true p101
              replace q101 := eq_true q101
              go_wp2_with (first | (refine goesVL_ (some 16) rfl rfl HG.out (.tmp 11) lb (by rfl) #[.int .u8 (rd l0 x8_1)] rfl (by (try simp only [List.map_toArray, List.map_cons, List.map_nil]); first | done | rfl | (simp only [List.length_drop, List.length_take]; rfl)) ?_; (with_reducible refine (HF.out (rd l0 x8_1) false _ A6.out).mono ?_); rintro e w' ⟨rfl, ⟨nd, rfl⟩⟩; refine ⟨_, rfl, ?_⟩))
              go_roundg k1
              case measure => have := HK1.out; omega
              case rel => exact ⟨(wrap64 (x8_1 + 1)), (by first | rfl | (simp; done) | (simp [*]; done)), H', ⟨by have := HK1.out; omega⟩, by repeat (first | exact Drawn0.refl _ | apply Drawn0.step)⟩
          · rw [if_neg c5] at H
            exact absurd H (by simp)
        · rw [if_neg c4] at H
          exact absurd H (by simp)
      · rw [if_neg c3] at H
        have c3b0 : decide (x8_1 < (l0.length : Int)) = false := decide_eq_false c3
        clear c3
        obtain rfl := Option.some.inj H
        go_wp2
        go_ret
        exact ⟨by first | rfl | (simp; done) | (simp [*]; done), by repeat (first | exact Drawn0.refl _ | apply Drawn0.step)⟩
def leadN (l : List Int) : Int := if l.findIdx (fun x => x != 0) < l.length then (l.findIdx (fun x => x != 0) : Int) else -1
theorem idx_loop (p : Int → Bool) (l : List Int) (hl : l.length < 9223372036854775807) (d : Nat) : ∀ (i k : Nat), i + d = l.length → d < k → (∀ j < i, p (l.getD j 0) = false) →
    slices_IndexFunc_byte_byte.l0 (fun x => some (p x)) k l (l.length : Int) i = some (if l.findIdx p < l.length then (l.findIdx p : Int) else -1) := by
  induction d with
  | zero =>
    intro i k hi hk hp
    obtain ⟨k, rfl⟩ : ∃ m, k = m + 1 := ⟨k - 1, by omega⟩
    simp only [slices_IndexFunc_byte_byte.l0]
    rw [if_neg (by omega), if_neg]
    intro h
    have h2 := List.findIdx_getElem (w := h)
    have h3 := hp (l.findIdx p) (by omega)
    rw [List.getD_eq_getElem?_getD, List.getElem?_eq_getElem h, Option.getD_some] at h3
    rw [h3] at h2; cases h2
  | succ d ih =>
    intro i k hi hk hp
    obtain ⟨k, rfl⟩ : ∃ m, k = m + 1 := ⟨k - 1, by omega⟩
    simp only [slices_IndexFunc_byte_byte.l0]
    have hil : i < l.length := by omega
    have hrd : rd l (i : Int) = l[i] := by unfold rd; rw [Int.toNat_natCast, List.getD_eq_getElem?_getD, List.getElem?_eq_getElem hil, Option.getD_some]
    rw [if_pos (by omega), if_pos (by omega), if_pos (by omega), Option.bind_some, hrd]
    by_cases c : p l[i] = true
    · rw [if_pos c]
      have h1 : l.findIdx p = i := by
        refine (List.findIdx_eq hil).2 ⟨c, fun j hj => ?_⟩
        have := hp j hj
        rwa [List.getD_eq_getElem?_getD, List.getElem?_eq_getElem (by omega), Option.getD_some] at this
      rw [h1, if_pos hil]
    · rw [if_neg c, show wrap64 ((i : Int) + 1) = ((i + 1 : Nat) : Int) from by unfold wrap64; omega]
      refine ih (i + 1) k (by omega) (by omega) fun j hj => ?_
      by_cases e : j = i
      · subst e; rw [List.getD_eq_getElem?_getD, List.getElem?_eq_getElem hil, Option.getD_some]; simpa using c
      · exact hp j (by omega)
theorem idx_f (p : Int → Bool) (l : List Int) (hl : l.length < 9223372036854775807) : slices_IndexFunc_byte_byte.f (fun x => some (p x)) (l.length + 1) l = some (if l.findIdx p < l.length then (l.findIdx p : Int) else -1) :=
  idx_loop p l hl l.length 0 _ (by omega) (by omega) (by omega)
theorem ok_lead : FnOk Try.prog 47 := ⟨⟨_, Try.func47, by rfl, rfl⟩⟩
set_option maxRecDepth 100000 in
theorem lead_fn (a : Int) (w : World) : Calls Try.prog 47 #[.int .u8 a] w fun e w' => e = .returned (.bool (a != 0)) ∧ Drawn0 w w' := by
  go_enter Try.func47, Try.ntmps47
  go_wp2
  go_ret
  exact ⟨by first | rfl | (simp; done), Drawn0.refl _⟩
def vector_Lead.f (l0 : List Int) : Option Int := if l0.length < 9223372036854775807 then some (leadN l0) else none
set_option maxRecDepth 100000 in
theorem vector_Lead.calls (A0 : Option Addr) (c0 : Nat) (l0 : List Int) (r : Int) (w : World) (hr0 : Kd.C (Kd.int .u8) w A0 l0.length l0) (hc0 : l0.length ≤ c0) (h : vector_Lead.f l0 = some r) :
    Calls Try.prog 21 #[.slice A0 l0.length c0] w fun e w' => e = .returned (.int .i64 r) ∧ Drawn0 w w' := by
  have hf : slices_IndexFunc_byte_byte.f (fun x => some (x != 0)) (l0.length + 1) l0 = some r := by
    unfold vector_Lead.f at h
    by_cases n : l0.length < 9223372036854775807
    · rw [if_pos n] at h
      rw [← h]; exact idx_f _ l0 n
    · rw [if_neg n] at h; cases h
  have HE := Aside0.mk (fun (w1 : World) (a : Kd.C (Kd.int .u8) w1 A0 l0.length l0) => slices_IndexFunc_byte_byte.calls (fun x => some (x != 0)) (l0.length + 1) A0 c0 l0 47 #[] ok_lead r w1 (fun x r W hr => by obtain rfl := Option.some.inj hr; simpa using lead_fn x W) a hc0 hf)
  have HR0 := Aside0.mk hr0
  clear hf h hr0
  go_enter Try.func21, Try.ntmps21
  go_wp2_with (go_at_call 46; refine (HE.out _ HR0.out).mono ?_; rintro e w1 ⟨rfl, nd⟩)
  go_ret
  exact ⟨rfl, nd⟩
end Go.Proofs.Ytpfaaljmefgpbaa.Hand
set_option linter.unusedVariables false
set_option linter.unusedSimpArgs false
namespace Go.Proofs.Ytpfaaljmefgpbaa.Hand
open Go.RowKit Go.Proofs.YtpfaaljmefgpbaaW.PrintWords Go.Proofs.YtpfaaljmefgpbaaW.PrintLast Go.Proofs.YtpfaaljmefgpbaaW.PrintMore
attribute [local go_sem] max2_int min2_int max_two min_two max_three min_three max_four min_four
end Go.Proofs.Ytpfaaljmefgpbaa.Hand
end

section
set_option linter.unusedVariables false
set_option linter.unusedSimpArgs false
namespace Go.Proofs.Ytpfaaljmefgpbaa.Hand
open Go.RowKit Go.Proofs.YtpfaaljmefgpbaaW.PrintWords Go.Proofs.YtpfaaljmefgpbaaW.PrintLast Go.Proofs.YtpfaaljmefgpbaaW.PrintMore
section
variable {P : Program}
end
section
variable {P : Program} {ops : Array Oper} {Q : Exit → Act → World → Prop} {md : Region.Mode}
theorem drawn_below {w w' : World} (h : Drawn0 w w') : Below w.heap.size w w' := by
  obtain ⟨n, rfl⟩ := h
  exact pw_below_drewN (Below.refl _ _) n
end
end Go.Proofs.Ytpfaaljmefgpbaa.Hand
end

section
set_option linter.unusedVariables false
set_option linter.unusedSimpArgs false
namespace Go.Proofs.Ytpfaaljmefgpbaa.Hand
open Go.RowKit Go.Proofs.YtpfaaljmefgpbaaW.PrintWords Go.Proofs.YtpfaaljmefgpbaaW.PrintLast Go.Proofs.YtpfaaljmefgpbaaW.PrintMore
abbrev rowK : Kd (List Int) := Kd.slice 5 (Kd.int .u8)
structure WorkIs (w0 W : World) (B G cap : Nat) (L : List (List Int)) (dn : Nat) : Prop where
  blk : W.heap[B]? = some (.cells #[.slice (some ⟨G, 0, none⟩) L.length cap, .int .i64 (dn : Int)] 70 (0, 0))
  ge : w0.heap.size ≤ B
  rows : Kd.N rowK 22 W w0.heap.size (fun k => k ≠ B) (.slice (some ⟨G, 0, none⟩) L.length cap) L
  below : Below w0.heap.size w0 W
def RowAt (W : World) (B G : Nat) (A : Option Addr) (c : Nat) (x : List Int) : Prop := x.length ≤ c ∧ Kd.F (Kd.int .u8) W (fun k => k ≠ B ∧ k ≠ G) A x.length x
namespace WorkIs
variable {w0 W W' : World} {B G cap : Nat} {L : List (List Int)} {dn : Nat}
theorem gb (h : WorkIs w0 W B G cap L dn) : G ≠ B := h.rows.1 G (by simp [Value.ownBlock])
theorem cell0 (h : WorkIs w0 W B G cap L dn) : W.cell? ⟨B, 0, none⟩ = some (.slice (some ⟨G, 0, none⟩) L.length cap) := by simp [World.cell?, h.blk]
theorem cell1 (h : WorkIs w0 W B G cap L dn) : W.cell? ⟨B, 1, none⟩ = some (.int .i64 (dn : Int)) := by simp [World.cell?, h.blk]
theorem free (h : WorkIs w0 W B G cap L dn) (j : Nat) : W.frozen? ⟨B, j, none⟩ = false := by simp [World.frozen?, h.blk]
theorem row (h : WorkIs w0 W B G cap L dn) (i : Nat) (hi : i < L.length) : ∃ A c, W.cell? ⟨G, i, none⟩ = some (.slice A L[i].length c) ∧ W.frozen? ⟨G, i, none⟩ = false ∧ RowAt W B G A c L[i] := by
  obtain ⟨c, hcl, hK, hcc, hfr⟩ := Kd.N_elem h.rows [] (i : Int) (by omega) (by omega)
  obtain ⟨A, cc, rfl, hl, hF⟩ := Kd.FK_slice_open hK
  have h0 := hcc 0 _ rfl
  have h1 := hfr 0
  simp only [Int.toNat_natCast, show (rowK).sz = 1 from rfl, Nat.mul_one, Nat.add_zero] at h0 h1
  have e : L.getD i [] = L[i] := by rw [List.getD_eq_getElem?_getD, List.getElem?_eq_getElem hi]; rfl
  rw [Int.toNat_natCast, e] at hF hl
  rw [e] at h0
  exact ⟨A, cc, h0, h1, hl, hF⟩
theorem heap_lt' {W : World} {k : Nat} {o : Obj} (h : W.heap[k]? = some o) : k < W.heap.size := by
  rcases Nat.lt_or_ge k W.heap.size with h1 | h1
  · exact h1
  · rw [Array.getElem?_eq_none h1] at h; cases h
theorem step (h : WorkIs w0 W B G cap L dn) (hb : Below W.heap.size W W') : WorkIs w0 W' B G cap L dn :=
  ⟨(hb.block B (heap_lt' h.blk)).trans h.blk, h.ge, Kd.N_below h.rows hb, h.below.trans (hb.mono h.below.size)⟩
theorem put (h : WorkIs w0 W B G cap L dn) (i : Nat) (hi : i < L.length) {A : Option Addr} {c : Nat} {x : List Int} (hx : RowAt W B G A c x) : WorkIs w0 (W.setCell ⟨G, i, none⟩ (.slice A x.length c)) B G cap (L.set i x) dn := by
  obtain ⟨A0, c0, h0, _, _⟩ := h.row i hi
  obtain ⟨h2, h3⟩ := Kd.N_seg h.rows (i : Int) (by omega) (by omega) (c := [.slice A0 L[i].length c0]) (seg := [.slice A x.length c]) (j := 0) (x' := x) (okp := fun k => k ≠ B ∧ k ≠ G) rfl
    (fun j u hu => by
      cases j with
      | zero =>
        have : Value.slice A0 L[i].length c0 = u := by simpa using hu
        subst this
        simpa [rowK, Kd.slice] using h0
      | succ j => simp at hu) (Nat.le_refl 1)
    (show Kd.FK rowK W _ x [.slice A x.length c] from Kd.FK_slice_mk hx.1 hx.2) (fun k hk => hk)
  have e : W.setCells G ((i : Int).toNat * (rowK).sz + 0) [.slice A x.length c] = W.setCell ⟨G, i, none⟩ (.slice A x.length c) := by
    simp [World.setCells, rowK, Kd.slice]
  rw [e, Int.toNat_natCast] at h2
  rw [e] at h3
  have hg : w0.heap.size ≤ G := Kd.N_base h.rows G (by simp [Value.ownBlock])
  refine ⟨?_, h.ge, by rw [List.length_set]; exact h2, h.below.setCell hg _⟩
  rw [Below.heap_setCell _ _ _ _ (Ne.symm h.gb), List.length_set]
  exact h.blk
theorem count (h : WorkIs w0 W B G cap L dn) : WorkIs w0 (W.setCell ⟨B, 1, none⟩ (.int .i64 ((dn + 1 : Nat) : Int))) B G cap L (dn + 1) := by
  refine ⟨?_, h.ge, Kd.N_far h.rows (fun k hk => hk) _, h.below.setCell h.ge _⟩
  simp only [World.setCell, Array.getElem?_modify, if_true, h.blk, Option.map_some]
  simp
end WorkIs
namespace RowAt
variable {W W' : World} {B G : Nat} {A : Option Addr} {c : Nat} {x : List Int}
theorem len (h : RowAt W B G A c x) : x.length ≤ c := h.1
theorem reads (h : RowAt W B G A c x) : Kd.C (Kd.int .u8) W A x.length x := Kd.F_now h.2
theorem step (h : RowAt W B G A c x) (hb : Below W.heap.size W W') : RowAt W' B G A c x := ⟨h.1, Kd.F_below h.2 hb⟩
theorem setG (h : RowAt W B G A c x) (i : Nat) (u : Value) : RowAt (W.setCell ⟨G, i, none⟩ u) B G A c x := ⟨h.1, Kd.F_far h.2 (fun k hk => hk.2) u⟩
theorem fresh {w0 : World} {cap : Nat} {L : List (List Int)} {dn e : Nat} {v : Value} (h : WorkIs w0 W B G cap L dn) (hr : Kd.R (Kd.int .u8) e W' W.heap.size (fun _ => True) v x) : ∃ A c, v = .slice A x.length c ∧ RowAt W' B G A c x := by
  obtain ⟨A, c, rfl, hl, _⟩ := Kd.R_reads hr
  refine ⟨A, c, rfl, hl, Kd.R_F (Kd.R_mono (Kd.R_bound hr) fun k hk => ?_)⟩
  have h1 := WorkIs.heap_lt' h.blk
  have h2 := Kd.N_lt h.rows G (by simp [Value.ownBlock])
  exact ⟨by omega, by omega⟩
end RowAt
end Go.Proofs.Ytpfaaljmefgpbaa.Hand
end

section
set_option linter.unusedVariables false
set_option linter.unusedSimpArgs false
namespace Go.Proofs.Ytpfaaljmefgpbaa.Hand
open Go.RowKit Go.Proofs.YtpfaaljmefgpbaaW.PrintWords Go.Proofs.YtpfaaljmefgpbaaW.PrintLast Go.Proofs.YtpfaaljmefgpbaaW.PrintMore
def addS (r s : List Int) (c : Int) : List Int := List.zipWith (fun x y => xr x (gm y c)) r s
def clr (L : List (List Int)) (dn lead i : Nat) : List (List Int) := (List.range L.length).map fun j => if j < i ∧ j ≠ dn then addS (L.getD j []) (L.getD dn []) ((L.getD j []).getD lead 0) else L.getD j []
theorem clr_length (L : List (List Int)) (dn lead i : Nat) : (clr L dn lead i).length = L.length := by simp [clr]
theorem clr_zero (L : List (List Int)) (dn lead : Nat) : clr L dn lead 0 = L := by
  refine List.ext_getElem (clr_length _ _ _ _) fun j h1 h2 => ?_
  simp [clr, h2]
theorem clr_at (L : List (List Int)) (dn lead i j : Nat) (h : j < L.length) (hj : i ≤ j ∨ j = dn) : (clr L dn lead i)[j]'(by rw [clr_length]; exact h) = L[j] := by
  simp only [clr, List.getElem_map, List.getElem_range]
  rw [if_neg (by omega)]
  simp [h]
theorem clr_skip (L : List (List Int)) (dn lead : Nat) : clr L dn lead (dn + 1) = clr L dn lead dn := by
  unfold clr
  refine List.map_congr_left fun j _ => ?_
  by_cases h : j < dn ∧ j ≠ dn
  · rw [if_pos h, if_pos (by omega)]
  · rw [if_neg h, if_neg (by omega)]
theorem clr_set (L : List (List Int)) (dn lead i : Nat) (hi : i < L.length) (hd : dn < L.length) (hne : i ≠ dn) : (clr L dn lead i).set i (addS L[i] L[dn] (rd L[i] (lead : Int))) = clr L dn lead (i + 1) := by
  refine List.ext_getElem (by simp [clr]) fun j h1 h2 => ?_
  rw [clr_length] at h2
  by_cases e : j = i
  · subst e
    rw [List.getElem_set_self]
    simp only [clr, List.getElem_map, List.getElem_range]
    rw [if_pos (by omega)]
    simp [hi, hd, rd]
  · rw [List.getElem_set_ne (fun q => e q.symm)]
    simp only [clr, List.getElem_map, List.getElem_range]
    by_cases h : j < i ∧ j ≠ dn
    · rw [if_pos h, if_pos (by omega)]
    · rw [if_neg h, if_neg (by omega)]
set_option maxHeartbeats 4000000 in
set_option maxRecDepth 100000 in
theorem clear_calls (w0 W : World) (B G cap : Nat) (L : List (List Int)) (dn lead n : Nat) (h : WorkIs w0 W B G cap L dn) (hd : dn < L.length) (hL : ∀ r ∈ L, r.length = n ∧ areB r) (hn : n ≤ vN) (hl : lead < n) (hLm : L.length < 1000000000) :
    Calls Try.prog 55 #[.pointer (some ⟨B, 0, none⟩), .int .i64 (lead : Int)] W fun e W' => e = .returned (.tuple #[]) ∧ WorkIs w0 W' B G cap (clr L dn lead L.length) (dn + 1) := by
  obtain ⟨Ao, co, ho0, ho1, hoR⟩ := h.row dn hd
  have pd := eq_true (show (0 : Int) ≤ (dn : Int) by omega)
  have qd := eq_true (show (dn : Int) < (L.length : Int) by omega)
  have qd2 := eq_true hd
  have HL := Aside0.mk hL
  clear hL
  go_enter Try.func55, Try.ntmps55
  try go_wp2
  refine start_ (n := 11) (S := fun w' => w'.cell? ⟨B, 0, none⟩ = some (.slice (some ⟨G, 0, none⟩) L.length cap) ∧ w'.cell? ⟨B, 1, none⟩ = some (.int .i64 (dn : Int)) ∧ w'.cell? ⟨G, dn, none⟩ = some (.slice Ao L[dn].length co)) (ds := []) #[false, false, false, false, false, false, false, false, false, false, false] (by kernel_rfl) rfl rfl ⟨(by simpa using h.cell0), (by simpa using h.cell1), (by simpa using ho0)⟩ (fun hHeld => ?_)
  refine pure_ (i := 0) (N := some 7) (v := ?_) (a' := ?_) #[true, false, false, false, false, false, false, false, false, false, false] rfl rfl (by kernel_rfl) (fun _ _ _ h => h) (Or.inl ⟨by rfl, ?_⟩) ?_ ?_
  rotate_left
  · intro w'
    go_simp
    with_reducible rfl
  rotate_left
  · simp only [Act.put, List.setIfInBounds_toArray, List.set_cons_zero, List.set_cons_succ, i64_w, i32_w]
    rfl
  refine pure_ (i := 1) (N := some 8) (v := ?_) (a' := ?_) #[true, true, false, false, false, false, false, false, false, false, false] rfl rfl (by kernel_rfl) (fun _ _ _ h => h) (Or.inl ⟨by rfl, ?_⟩) ?_ ?_
  rotate_left
  · intro w'
    go_simp
    with_reducible rfl
  rotate_left
  · simp only [Act.put, List.setIfInBounds_toArray, List.set_cons_zero, List.set_cons_succ, i64_w, i32_w]
    rfl
  refine pure_ (i := 2) (N := some 9) (v := ?_) (a' := ?_) #[true, true, true, false, false, false, false, false, false, false, false] rfl rfl (by kernel_rfl) (fun _ _ _ h => h) (Or.inl ⟨by rfl, ?_⟩) ?_ ?_
  rotate_left
  · intro w'
    go_simp
    with_reducible rfl
  rotate_left
  · simp only [Act.put, List.setIfInBounds_toArray, List.set_cons_zero, List.set_cons_succ, i64_w, i32_w]
    rfl
  refine pure_ (i := 4) (N := some 11) (v := ?_) (a' := ?_) #[true, true, true, false, true, false, false, false, false, false, false] rfl rfl (by kernel_rfl) (fun _ _ _ h => h) (Or.inl ⟨by rfl, ?_⟩) ?_ ?_
  rotate_left
  · intro w'
    go_simp
    with_reducible rfl
  rotate_left
  · simp only [Act.put, List.setIfInBounds_toArray, List.set_cons_zero, List.set_cons_succ, i64_w, i32_w]
    rfl
  refine pure_ (i := 5) (N := some 12) (v := ?_) (a' := ?_) #[true, true, true, false, true, true, false, false, false, false, false] rfl rfl (by kernel_rfl) (fun _ _ _ h => h) (Or.inl ⟨by rfl, ?_⟩) ?_ ?_
  rotate_left
  · intro w'
    go_simp
    with_reducible rfl
  rotate_left
  · simp only [Act.put, List.setIfInBounds_toArray, List.set_cons_zero, List.set_cons_succ, i64_w, i32_w]
    rfl
  refine pure_ (i := 6) (N := some 13) (v := ?_) (a' := ?_) #[true, true, true, false, true, true, true, false, false, false, false] rfl rfl (by kernel_rfl) (fun _ _ _ h => h) (Or.inl ⟨by rfl, ?_⟩) ?_ ?_
  rotate_left
  · intro w'
    go_simp
    with_reducible rfl
  rotate_left
  · simp only [Act.put, List.setIfInBounds_toArray, List.set_cons_zero, List.set_cons_succ, i64_w, i32_w]
    rfl
  refine take_ (i := 3) (N := some 10) (v := ?_) (a' := ?_) #[true, true, true, true, true, true, true, false, false, false, false] rfl rfl (by kernel_rfl) (fun _ _ _ h => h) (Or.inl ⟨by rfl, ?_⟩) hHeld ?_ ?_
  rotate_left
  · rintro w' ⟨s0, s1, s2⟩
    go_simp
    with_reducible rfl
  rotate_left
  · simp only [Act.put, List.setIfInBounds_toArray, List.set_cons_zero, List.set_cons_succ, i64_w, i32_w]
    rfl
  refine take_ (i := 7) (N := some 14) (v := ?_) (a' := ?_) #[true, true, true, true, true, true, true, true, false, false, false] rfl rfl (by kernel_rfl) (fun _ _ _ h => h) (Or.inl ⟨by rfl, ?_⟩) hHeld ?_ ?_
  rotate_left
  · rintro w' ⟨s0, s1, s2⟩
    go_simp
    with_reducible rfl
  rotate_left
  · simp only [Act.put, List.setIfInBounds_toArray, List.set_cons_zero, List.set_cons_succ, i64_w, i32_w]
    rfl
  refine pure_ (i := 8) (N := some 15) (v := ?_) (a' := ?_) #[true, true, true, true, true, true, true, true, true, false, false] rfl rfl (by kernel_rfl) (fun _ _ _ h => h) (Or.inl ⟨by rfl, ?_⟩) ?_ ?_
  rotate_left
  · intro w'
    go_simp
    with_reducible rfl
  rotate_left
  · simp only [Act.put, List.setIfInBounds_toArray, List.set_cons_zero, List.set_cons_succ, i64_w, i32_w]
    rfl
  refine take_ (i := 9) (N := some 16) (v := ?_) (a' := ?_) #[true, true, true, true, true, true, true, true, true, true, false] rfl rfl (by kernel_rfl) (fun _ _ _ h => h) (Or.inl ⟨by rfl, ?_⟩) hHeld ?_ ?_
  rotate_left
  · rintro w' ⟨s0, s1, s2⟩
    go_simp
    with_reducible rfl
  rotate_left
  · simp only [Act.put, List.setIfInBounds_toArray, List.set_cons_zero, List.set_cons_succ, i64_w, i32_w]
    rfl
  refine pure_ (i := 10) (N := some 4) (v := ?_) (a' := ?_) #[true, true, true, true, true, true, true, true, true, true, true] rfl rfl (by kernel_rfl) (fun _ _ _ h => h) (Or.inl ⟨by rfl, ?_⟩) ?_ ?_
  rotate_left
  · intro w'
    go_simp
    with_reducible rfl
  rotate_left
  · simp only [Act.put, List.setIfInBounds_toArray, List.set_cons_zero, List.set_cons_succ, i64_w, i32_w]
    rfl
  refine done_ (by kernel_rfl) ?_
  have HW := Aside0.mk (h.step (below_drew (Below.refl W.heap.size W)))
  have HO := Aside0.mk (hoR.step (below_drew (Below.refl W.heap.size W)))
  have Hne := Aside0.mk h.gb
  clear hHeld ho0 ho1 hoR h pd qd qd2
  generalize W.drew = W1 at HW HO ⊢
  have hb0 := HW.out.cell0
  go_wp2
  clear hb0
  go_loopg [22] L.length (fun kq v22 w' => ∃ i : Nat, v22 = .int .i64 (i : Int) ∧ Aside0 (kq + i = L.length) ∧ Aside0 (WorkIs w0 w' B G cap (clr L dn lead i) dn) ∧ Aside0 (RowAt w' B G Ao co L[dn]))
  case atStart => exact ⟨0, rfl, ⟨rfl⟩, ⟨by rw [clr_zero]; exact HW.out⟩, HO⟩
  case round =>
    clear HW HO
    obtain ⟨i, rfl, HI, HW, HO⟩ := hrel
    have pI : (0 : Int) ≤ (i : Int) := by omega
    have hbd : (i : Int) ≤ 1000000000 := by have := HI.out; omega
    by_cases hi : i < L.length
    · obtain ⟨Ai, ci, hi0, hi1, hiR⟩ := HW.out.row i (by rw [clr_length]; exact hi)
      rw [clr_at L dn lead i i hi (Or.inl (Nat.le_refl _))] at hi0 hiR
      have HR := Aside0.mk hiR
      clear hiR
      have hLi := HL.out _ (List.getElem_mem hi)
      have hLd := HL.out _ (List.getElem_mem hd)
      have pl := show (0 : Int) ≤ (lead : Int) by omega
      have ql := show (lead : Int) < (L[i].length : Int) by omega
      obtain ⟨adi, ei, hxi⟩ := Kd.at_int HR.out.reads (lead : Int) pl ql
      cases ei
      rw [Int.toNat_natCast] at hxi
      have HS := Aside0.mk (show vector_AddScaled.f L[i] L[dn] (rd L[i] (lead : Int)) = some (addS L[i] L[dn] (rd L[i] (lead : Int)), 0) from by
        unfold vector_AddScaled.f
        rw [if_pos (by omega), if_pos ⟨by omega, hLd.2, hLi.2 _ (rd_mem pl ql)⟩]; rfl)
      have ql2 := eq_true (show lead < L[i].length by omega)
      replace pl := eq_true pl
      replace ql := eq_true ql
      clear hLi hLd
      have Hi := Aside0.mk hi
      have qI := eq_true (show (i : Int) < (L.length : Int) by omega)
      have qI1 : decide ((i : Int) < (L.length : Int)) = true := decide_eq_true (by omega)
      have qI2 := eq_true hi
      replace pI := eq_true pI
      have hb1 := HW.out.cell1
      cases gk with
      | zero => exact absurd HI.out (by omega)
      | succ k1 =>
        by_cases hid : i = dn
        · subst hid
          have t1 : ((i : Int) != (i : Int)) = false := by simp
          go_wp2
          go_roundg k1
          case measure => omega
          case rel => exact ⟨i + 1, by go_num, ⟨by have := HI.out; omega⟩, ⟨by rw [clr_skip]; exact HW.out⟩, HO⟩
        · have t1 : ((i : Int) != (dn : Int)) = true := by simp; omega
          have t2 : ((i : Int) == (dn : Int)) = false := by simp; omega
          have hb0 : wr.cell? ⟨B, 0, none⟩ = some (.slice (some ⟨G, 0, none⟩) L.length cap) := by simpa [clr_length] using HW.out.cell0
          go_wp2
          refine start_ (n := 17) (S := fun w' => w'.cell? ⟨B, 0, none⟩ = some (.slice (some ⟨G, 0, none⟩) L.length cap) ∧ w'.cell? (adi.add lead) = some (.int .u8 (rd L[i] (lead : Int)))) (ds := [16]) #[false, false, false, false, false, false, false, false, false, false, false, false, false, false, false, false, false] (by kernel_rfl) rfl rfl ⟨(by simpa [clr_length] using HW.out.cell0), (by simpa using hxi)⟩ (fun hHeld => ?_)
          have n0_ := Aside0.mk (HW.out.step (below_drew (Below.refl _ _)))
          have n1_ := Aside0.mk (HO.out.step (below_drew (Below.refl _ _)))
          have n2_ := Aside0.mk (HR.out.step (below_drew (Below.refl _ _)))
          clear HW HO HR
          have HW := n0_
          have HO := n1_
          have HR := n2_
          clear n0_ n1_ n2_ hi0 hi1 hb1 hxi hb0
          generalize wr.drew = w5 at HW HO HR hHeld ⊢
          refine pure_ (i := 0) (N := some 34) (v := ?_) (a' := ?_) #[true, false, false, false, false, false, false, false, false, false, false, false, false, false, false, false, false] rfl rfl (by kernel_rfl) (fun _ _ _ h => h) (Or.inl ⟨by rfl, ?_⟩) ?_ ?_
          rotate_left
          · intro w'
            go_simp
            with_reducible rfl
          rotate_left
          · simp only [Act.put, List.setIfInBounds_toArray, List.set_cons_zero, List.set_cons_succ, i64_w, i32_w]
            rfl
          refine pure_ (i := 1) (N := some 35) (v := ?_) (a' := ?_) #[true, true, false, false, false, false, false, false, false, false, false, false, false, false, false, false, false] rfl rfl (by kernel_rfl) (fun _ _ _ h => h) (Or.inl ⟨by rfl, ?_⟩) ?_ ?_
          rotate_left
          · intro w'
            go_simp
            with_reducible rfl
          rotate_left
          · simp only [Act.put, List.setIfInBounds_toArray, List.set_cons_zero, List.set_cons_succ, i64_w, i32_w]
            rfl
          refine pure_ (i := 2) (N := some 36) (v := ?_) (a' := ?_) #[true, true, true, false, false, false, false, false, false, false, false, false, false, false, false, false, false] rfl rfl (by kernel_rfl) (fun _ _ _ h => h) (Or.inl ⟨by rfl, ?_⟩) ?_ ?_
          rotate_left
          · intro w'
            go_simp
            with_reducible rfl
          rotate_left
          · simp only [Act.put, List.setIfInBounds_toArray, List.set_cons_zero, List.set_cons_succ, i64_w, i32_w]
            rfl
          refine pure_ (i := 4) (N := some 38) (v := ?_) (a' := ?_) #[true, true, true, false, true, false, false, false, false, false, false, false, false, false, false, false, false] rfl rfl (by kernel_rfl) (fun _ _ _ h => h) (Or.inl ⟨by rfl, ?_⟩) ?_ ?_
          rotate_left
          · intro w'
            go_simp
            with_reducible rfl
          rotate_left
          · simp only [Act.put, List.setIfInBounds_toArray, List.set_cons_zero, List.set_cons_succ, i64_w, i32_w]
            rfl
          refine pure_ (i := 5) (N := some 39) (v := ?_) (a' := ?_) #[true, true, true, false, true, true, false, false, false, false, false, false, false, false, false, false, false] rfl rfl (by kernel_rfl) (fun _ _ _ h => h) (Or.inl ⟨by rfl, ?_⟩) ?_ ?_
          rotate_left
          · intro w'
            go_simp
            with_reducible rfl
          rotate_left
          · simp only [Act.put, List.setIfInBounds_toArray, List.set_cons_zero, List.set_cons_succ, i64_w, i32_w]
            rfl
          refine pure_ (i := 6) (N := some 40) (v := ?_) (a' := ?_) #[true, true, true, false, true, true, true, false, false, false, false, false, false, false, false, false, false] rfl rfl (by kernel_rfl) (fun _ _ _ h => h) (Or.inl ⟨by rfl, ?_⟩) ?_ ?_
          rotate_left
          · intro w'
            go_simp
            with_reducible rfl
          rotate_left
          · simp only [Act.put, List.setIfInBounds_toArray, List.set_cons_zero, List.set_cons_succ, i64_w, i32_w]
            rfl
          refine pure_ (i := 7) (N := some 41) (v := ?_) (a' := ?_) #[true, true, true, false, true, true, true, true, false, false, false, false, false, false, false, false, false] rfl rfl (by kernel_rfl) (fun _ _ _ h => h) (Or.inl ⟨by rfl, ?_⟩) ?_ ?_
          rotate_left
          · intro w'
            go_simp
            with_reducible rfl
          rotate_left
          · simp only [Act.put, List.setIfInBounds_toArray, List.set_cons_zero, List.set_cons_succ, i64_w, i32_w]
            rfl
          refine pure_ (i := 8) (N := some 42) (v := ?_) (a' := ?_) #[true, true, true, false, true, true, true, true, true, false, false, false, false, false, false, false, false] rfl rfl (by kernel_rfl) (fun _ _ _ h => h) (Or.inl ⟨by rfl, ?_⟩) ?_ ?_
          rotate_left
          · intro w'
            go_simp
            with_reducible rfl
          rotate_left
          · simp only [Act.put, List.setIfInBounds_toArray, List.set_cons_zero, List.set_cons_succ, i64_w, i32_w]
            rfl
          refine pure_ (i := 9) (N := some 43) (v := ?_) (a' := ?_) #[true, true, true, false, true, true, true, true, true, true, false, false, false, false, false, false, false] rfl rfl (by kernel_rfl) (fun _ _ _ h => h) (Or.inl ⟨by rfl, ?_⟩) ?_ ?_
          rotate_left
          · intro w'
            go_simp
            with_reducible rfl
          rotate_left
          · simp only [Act.put, List.setIfInBounds_toArray, List.set_cons_zero, List.set_cons_succ, i64_w, i32_w]
            rfl
          refine take_ (i := 3) (N := some 37) (v := ?_) (a' := ?_) #[true, true, true, true, true, true, true, true, true, true, false, false, false, false, false, false, false] rfl rfl (by kernel_rfl) (fun _ _ _ h => h) (Or.inl ⟨by rfl, ?_⟩) hHeld ?_ ?_
          rotate_left
          · rintro w' ⟨s0, s1⟩
            go_simp
            with_reducible rfl
          rotate_left
          · simp only [Act.put, List.setIfInBounds_toArray, List.set_cons_zero, List.set_cons_succ, i64_w, i32_w]
            rfl
          refine take_ (i := 10) (N := some 44) (v := ?_) (a' := ?_) #[true, true, true, true, true, true, true, true, true, true, true, false, false, false, false, false, false] rfl rfl (by kernel_rfl) (fun _ _ _ h => h) (Or.inl ⟨by rfl, ?_⟩) hHeld ?_ ?_
          rotate_left
          · rintro w' ⟨s0, s1⟩
            go_simp
            with_reducible rfl
          rotate_left
          · simp only [Act.put, List.setIfInBounds_toArray, List.set_cons_zero, List.set_cons_succ, i64_w, i32_w]
            rfl
          refine one_ (i := 11) (N := some 45) #[true, true, true, true, true, true, true, true, true, true, true, true, false, false, false, false, false] rfl rfl (by kernel_rfl) (by decide) (fun K hK => ?_)
          refine goes_ Try.func20 (by kernel_rfl) rfl #[.slice (some adi) L[i].length ci, .slice Ao L[dn].length co, .int .u8 (rd L[i] (lead : Int))] (by rfl) rfl rfl (by simp only [List.map_toArray, List.map_cons, List.map_nil]; rfl) ?_
          with_reducible refine (vector_AddScaled.calls (some adi) ci L[i] Ao co L[dn] (rd L[i] (lead : Int)) (addS L[i] L[dn] (rd L[i] (lead : Int))) 0 _ HR.out.reads HR.out.len HO.out.reads HO.out.len HS.out).mono ?_
          rintro e w2 ⟨v0, rfl, hR, hb⟩
          refine ⟨_, rfl, ?_⟩
          obtain ⟨An, cn, rfl, hN⟩ := RowAt.fresh HW.out hR
          have HW2 := Aside0.mk (HW.out.step hb)
          have HO2 := Aside0.mk (HO.out.step hb)
          have HN := Aside0.mk hN
          have hxi2 := (hb.cell (World.block_lt_of_cell? _ _ hHeld.2)).trans hHeld.2
          obtain ⟨Az, cz, hz0, hz1, _⟩ := HW2.out.row i (by rw [clr_length]; exact Hi.out)
          clear hR hb hN
          refine hK.out _ _ ⟨(by simpa [clr_length] using HW2.out.cell0), hxi2⟩ (fun hHeld => ?_)
          clear hK K
          refine norm_ (a' := ?_) ?_ ?_
          rotate_left
          · show Act.put _ (some 45) _ = _
            simp only [Act.put, List.setIfInBounds_toArray, List.set_cons_zero, List.set_cons_succ, i64_w, i32_w]
            rfl
          refine pure_ (i := 12) (N := some 33) (v := ?_) (a' := ?_) #[true, true, true, true, true, true, true, true, true, true, true, true, true, false, false, false, false] rfl rfl (by kernel_rfl) (fun _ _ _ h => h) (Or.inl ⟨by rfl, ?_⟩) ?_ ?_
          rotate_left
          · intro w'
            go_simp
            with_reducible rfl
          rotate_left
          · simp only [Act.put, List.setIfInBounds_toArray, List.set_cons_zero, List.set_cons_succ, i64_w, i32_w]
            rfl
          refine pure_ (i := 13) (N := some 46) (v := ?_) (a' := ?_) #[true, true, true, true, true, true, true, true, true, true, true, true, true, true, false, false, false] rfl rfl (by kernel_rfl) (fun _ _ _ h => h) (Or.inl ⟨by rfl, ?_⟩) ?_ ?_
          rotate_left
          · intro w'
            go_simp
            with_reducible rfl
          rotate_left
          · simp only [Act.put, List.setIfInBounds_toArray, List.set_cons_zero, List.set_cons_succ, i64_w, i32_w]
            rfl
          refine pure_ (i := 14) (N := some 47) (v := ?_) (a' := ?_) #[true, true, true, true, true, true, true, true, true, true, true, true, true, true, true, false, false] rfl rfl (by kernel_rfl) (fun _ _ _ h => h) (Or.inl ⟨by rfl, ?_⟩) ?_ ?_
          rotate_left
          · intro w'
            go_simp
            with_reducible rfl
          rotate_left
          · simp only [Act.put, List.setIfInBounds_toArray, List.set_cons_zero, List.set_cons_succ, i64_w, i32_w]
            rfl
          refine pure_ (i := 15) (N := some 48) (v := ?_) (a' := ?_) #[true, true, true, true, true, true, true, true, true, true, true, true, true, true, true, true, false] rfl rfl (by kernel_rfl) (fun _ _ _ h => h) (Or.inl ⟨by rfl, ?_⟩) ?_ ?_
          rotate_left
          · intro w'
            go_simp
            with_reducible rfl
          rotate_left
          · simp only [Act.put, List.setIfInBounds_toArray, List.set_cons_zero, List.set_cons_succ, i64_w, i32_w]
            rfl
          refine last_ (i := 16) (N := none) #[true, true, true, true, true, true, true, true, true, true, true, true, true, true, true, true, true] rfl rfl (by kernel_rfl) (by decide) (fun K hK => ?_)
          refine skip_ (w1 := ?_) (by rfl) rfl ?_ ?_
          rotate_left
          · go_simp
            rfl
          refine hK.out _ _ ?_
          clear hK K
          refine done_ (by kernel_rfl) ?_
          go_wp2
          go_roundg k1
          case measure => omega
          case rel => exact ⟨i + 1, by go_num, ⟨by have := HI.out; omega⟩, ⟨by have := HW2.out.put i (by rw [clr_length]; exact Hi.out) HN.out; rwa [clr_set L dn lead i Hi.out hd hid] at this⟩, ⟨HO2.out.setG i _⟩⟩
    · have hbb := HW.out.cell1
      have hfr := HW.out.free 1
      have qI1 : decide ((i : Int) < (L.length : Int)) = false := decide_eq_false (by omega)
      have hdb : (dn : Int) ≤ 1000000000 := by omega
      have hd0 : (0 : Int) ≤ (dn : Int) := by omega
      go_wp2
      go_end0
      have e : i = L.length := by have := HI.out; omega
      subst e
      exact ⟨rfl, by simpa using HW.out.count⟩
end Go.Proofs.Ytpfaaljmefgpbaa.Hand
end
