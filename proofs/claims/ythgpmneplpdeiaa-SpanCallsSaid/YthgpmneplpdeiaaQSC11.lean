/- QSC, part 11: HBytes HMore HWork HClear. -/
import Derived.Test.YthgpmneplpdeiaaQSC8
import Derived.Test.YthgpmneplpdeiaaQSC10

section
set_option linter.unusedVariables false
set_option linter.unusedSimpArgs false
namespace Go.Proofs.Ythgpmneplpdeiaa.Hand
open Go.RowKit Go.Proofs.Ythgpmneplpdeiaa.GF Go.Proofs.Ythgpmneplpdeiaa.LA
def vec (l : List Int) : V := fun j => toG (l.getD j 0)
theorem xr_ofG (a b : Int) : xr a b = ofG (toG a ^^^ toG b) := bits_xor a b
theorem xr_B (a b : Int) : isB (xr a b) := by rw [xr_ofG]; exact ofG_range _
theorem gm_B (a b : Int) : isB (gm a b) := ofG_range _
theorem toG_xr (a b : Int) : toG (xr a b) = toG a ^^^ toG b := by rw [xr_ofG, toG_ofG]
theorem toGgm (a b : Int) : toG (gm a b) = mul (toG a) (toG b) := by unfold gm; rw [toG_ofG]
theorem vec_lt {l : List Int} {j : Nat} (h : j < l.length) : vec l j = toG l[j] := by
  unfold vec; rw [List.getD_eq_getElem?_getD, List.getElem?_eq_getElem h, Option.getD_some]
theorem vec_ge {l : List Int} {j : Nat} (h : l.length ≤ j) : vec l j = 0#8 := by
  unfold vec; rw [List.getD_eq_getElem?_getD, List.getElem?_eq_none h]; rfl
theorem vec_supp (l : List Int) : Supp l.length (vec l) := fun j hj => vec_ge hj
theorem vec_ext {a b : List Int} (hl : a.length = b.length) (ha : areB a) (hb : areB b) (h : ∀ j, j < a.length → vec a j = vec b j) : a = b := by
  refine List.ext_getElem hl fun j h1 h2 => ?_
  have := h j h1
  rw [vec_lt h1, vec_lt h2] at this
  have pa := ha _ (List.getElem_mem h1)
  have pb := hb _ (List.getElem_mem h2)
  exact toG_inj pa.1 pa.2 pb.1 pb.2 this
theorem areB_map (F : Int → Int) (hF : ∀ x, isB (F x)) (a : List Int) : areB (a.map F) := fun x h => by
  obtain ⟨y, _, rfl⟩ := List.mem_map.1 h; exact hF y
theorem areB_of_wf {l : List Int} (h : ∀ x ∈ l, (Lit.int .u8 x).wf = true) : areB l := fun x hx => by
  have q := h x hx
  simp [Lit.wf, IntKind.min, IntKind.max, IntKind.bits, IntKind.signed] at q
  exact ⟨q.1, by omega⟩
theorem vec_zip (F : Int → Int → Int) (F' : G → G → G) (hF : ∀ x y, toG (F x y) = F' (toG x) (toG y)) {a b : List Int} (hl : a.length = b.length) (h0 : F' 0#8 0#8 = 0#8) : vec (List.zipWith F a b) = fun j => F' (vec a j) (vec b j) := funext fun j => by
  by_cases h : j < a.length
  · rw [vec_lt (by rw [List.length_zipWith]; omega), vec_lt h, vec_lt (by omega), List.getElem_zipWith, hF]
  · rw [vec_ge (by rw [List.length_zipWith]; omega), vec_ge (by omega), vec_ge (by omega), h0]
theorem vec_addScaled {a b : List Int} (hl : a.length = b.length) (c : Int) : vec (List.zipWith (fun x y => xr x (gm y c)) a b) = va (vec a) (vs (toG c) (vec b)) :=
  vec_zip _ (fun x y => x ^^^ mul (toG c) y) (fun x y => by rw [toG_xr, toGgm, mul_comm]) hl (by rw [GF.mul_zero]; decide)
theorem vec_scale (a : List Int) (c : Int) : vec (a.map fun x => gm x c) = vs (toG c) (vec a) := funext fun j => by
  unfold vs
  by_cases h : j < a.length
  · rw [vec_lt (by simpa using h), vec_lt h, List.getElem_map, toGgm, mul_comm]
  · rw [vec_ge (by simpa using h), vec_ge (by omega), GF.mul_zero]
theorem vec_zeros (n : Nat) : vec (List.replicate n 0) = vz := funext fun j => by
  by_cases h : j < n
  · rw [vec_lt (by simpa using h), List.getElem_replicate]; rfl
  · rw [vec_ge (by simpa using h)]; rfl
theorem byte_eq {a b : Int} (ha : isB a) (hb : isB b) (h : toG a = toG b) : a = b := toG_inj ha.1 ha.2 hb.1 hb.2 h
theorem leadN_neg {l : List Int} (h : ∀ x ∈ l, x = 0) : leadN l = -1 := by
  unfold leadN
  rw [if_neg]
  intro q
  have h2 := List.findIdx_getElem (w := q)
  rw [h _ (List.getElem_mem q)] at h2
  cases h2
theorem leadN_pos {l : List Int} {i : Nat} (hi : i < l.length) (h1 : l[i] ≠ 0) (h2 : ∀ j (h : j < i), l[j] = 0) : leadN l = i := by
  have e : l.findIdx (fun x => x != 0) = i := (List.findIdx_eq hi).2 ⟨by simpa using h1, fun j hj => by simpa using h2 j hj⟩
  unfold leadN
  rw [e, if_pos hi]
end Go.Proofs.Ythgpmneplpdeiaa.Hand
end

section
set_option linter.unusedVariables false
set_option linter.unusedSimpArgs false
namespace Go.Proofs.Ythgpmneplpdeiaa.Hand
open Go.RowKit Go.Proofs.YthgpmneplpdeiaaW.PrintWords Go.Proofs.YthgpmneplpdeiaaW.PrintLast Go.Proofs.YthgpmneplpdeiaaW.PrintMore
section
variable {P : Program}
end
section
variable {P : Program} {ops : Array Oper} {Q : Exit → Act → World → Prop} {md : Region.Mode}
theorem conv_run {oi : Oper} {a : Act} {src dst : TypeId} {x : Operand} {v s : Value} {w w' : World} (hop : oi.op = .convert src dst x) (h : (convert src dst v).run P w = .ok s w') (hx : a.eval x = v) : (execOp a.eval oi).run P w = .ok (.value s) w' := by
  subst hx
  simp [execOp, hop, h]
theorem drawn_below {w w' : World} (h : Drawn0 w w') : Below w.heap.size w w' := by
  obtain ⟨n, rfl⟩ := h
  exact pw_below_drewN (Below.refl _ _) n
end
end Go.Proofs.Ythgpmneplpdeiaa.Hand
end

section
set_option linter.unusedVariables false
set_option linter.unusedSimpArgs false
namespace Go.Proofs.Ythgpmneplpdeiaa.Hand
open Go.RowKit Go.Proofs.YthgpmneplpdeiaaW.PrintWords Go.Proofs.YthgpmneplpdeiaaW.PrintLast Go.Proofs.YthgpmneplpdeiaaW.PrintMore
abbrev rowK : Kd (List Int) := Kd.slice 5 (Kd.int .u8)
structure WorkIs (w0 W : World) (B G cap : Nat) (L : List (List Int)) (dn : Nat) : Prop where
  blk : W.heap[B]? = some (.cells #[.slice (some ⟨G, 0, none⟩) L.length cap, .int .i64 (dn : Int)] 74 (0, 0))
  ge : w0.heap.size ≤ B
  rows : Kd.N rowK 23 W w0.heap.size (fun k => k ≠ B) (.slice (some ⟨G, 0, none⟩) L.length cap) L
  below : Below w0.heap.size w0 W
def RowAt (W : World) (B G : Nat) (A : Option Addr) (c : Nat) (x : List Int) : Prop := x.length ≤ c ∧ Kd.F (Kd.int .u8) W (fun k => k ≠ B ∧ k ≠ G) A x.length x
namespace WorkIs
variable {w0 W W' : World} {B G cap : Nat} {L : List (List Int)} {dn : Nat}
theorem gb (h : WorkIs w0 W B G cap L dn) : G ≠ B := h.rows.1 G (by simp [Value.ownBlock])
theorem cell0 (h : WorkIs w0 W B G cap L dn) : W.cell? ⟨B, 0, none⟩ = some (.slice (some ⟨G, 0, none⟩) L.length cap) := by simp [World.cell?, h.blk]
theorem cell1 (h : WorkIs w0 W B G cap L dn) : W.cell? ⟨B, 1, none⟩ = some (.int .i64 (dn : Int)) := by simp [World.cell?, h.blk]
theorem free (h : WorkIs w0 W B G cap L dn) (j : Nat) : W.frozen? ⟨B, j, none⟩ = false := by simp [World.frozen?, h.blk]
theorem row (h : WorkIs w0 W B G cap L dn) (i : Nat) (hi : i < L.length) : ∃ A c, W.cell? ⟨G, i, none⟩ = some (.slice A L[i].length c) ∧ W.frozen? ⟨G, i, none⟩ = false ∧ RowAt W B G A c L[i] := by
  obtain ⟨c, hcl, hK, hcc, hfr⟩ := Kd.N_elem h.rows [] (i : Int) (by omega) (by omega)
  obtain ⟨A, cc, rfl, hl, hF⟩ := Kd.FK_slice_open hK
  have h0 := hcc 0 _ rfl
  have h1 := hfr 0
  simp only [Int.toNat_natCast, show (rowK).sz = 1 from rfl, Nat.mul_one, Nat.add_zero] at h0 h1
  have e : L.getD i [] = L[i] := by rw [List.getD_eq_getElem?_getD, List.getElem?_eq_getElem hi]; rfl
  rw [Int.toNat_natCast, e] at hF hl
  rw [e] at h0
  exact ⟨A, cc, h0, h1, hl, hF⟩
theorem heap_lt' {W : World} {k : Nat} {o : Obj} (h : W.heap[k]? = some o) : k < W.heap.size := by
  rcases Nat.lt_or_ge k W.heap.size with h1 | h1
  · exact h1
  · rw [Array.getElem?_eq_none h1] at h; cases h
theorem step (h : WorkIs w0 W B G cap L dn) (hb : Below W.heap.size W W') : WorkIs w0 W' B G cap L dn :=
  ⟨(hb.block B (heap_lt' h.blk)).trans h.blk, h.ge, Kd.N_below h.rows hb, h.below.trans (hb.mono h.below.size)⟩
theorem put (h : WorkIs w0 W B G cap L dn) (i : Nat) (hi : i < L.length) {A : Option Addr} {c : Nat} {x : List Int} (hx : RowAt W B G A c x) : WorkIs w0 (W.setCell ⟨G, i, none⟩ (.slice A x.length c)) B G cap (L.set i x) dn := by
  obtain ⟨A0, c0, h0, _, _⟩ := h.row i hi
  obtain ⟨h2, h3⟩ := Kd.N_seg h.rows (i : Int) (by omega) (by omega) (c := [.slice A0 L[i].length c0]) (seg := [.slice A x.length c]) (j := 0) (x' := x) (okp := fun k => k ≠ B ∧ k ≠ G) rfl
    (fun j u hu => by
      cases j with
      | zero =>
        have : Value.slice A0 L[i].length c0 = u := by simpa using hu
        subst this
        simpa [rowK, Kd.slice] using h0
      | succ j => simp at hu) (Nat.le_refl 1)
    (show Kd.FK rowK W _ x [.slice A x.length c] from Kd.FK_slice_mk hx.1 hx.2) (fun k hk => hk)
  have e : W.setCells G ((i : Int).toNat * (rowK).sz + 0) [.slice A x.length c] = W.setCell ⟨G, i, none⟩ (.slice A x.length c) := by
    simp [World.setCells, rowK, Kd.slice]
  rw [e, Int.toNat_natCast] at h2
  rw [e] at h3
  have hg : w0.heap.size ≤ G := Kd.N_base h.rows G (by simp [Value.ownBlock])
  refine ⟨?_, h.ge, by rw [List.length_set]; exact h2, h.below.setCell hg _⟩
  rw [Below.heap_setCell _ _ _ _ (Ne.symm h.gb), List.length_set]
  exact h.blk
theorem count (h : WorkIs w0 W B G cap L dn) : WorkIs w0 (W.setCell ⟨B, 1, none⟩ (.int .i64 ((dn + 1 : Nat) : Int))) B G cap L (dn + 1) := by
  refine ⟨?_, h.ge, Kd.N_far h.rows (fun k hk => hk) _, h.below.setCell h.ge _⟩
  simp only [World.setCell, Array.getElem?_modify, if_true, h.blk, Option.map_some]
  simp
end WorkIs
namespace RowAt
variable {W W' : World} {B G : Nat} {A : Option Addr} {c : Nat} {x : List Int}
theorem len (h : RowAt W B G A c x) : x.length ≤ c := h.1
theorem reads (h : RowAt W B G A c x) : Kd.C (Kd.int .u8) W A x.length x := Kd.F_now h.2
theorem step (h : RowAt W B G A c x) (hb : Below W.heap.size W W') : RowAt W' B G A c x := ⟨h.1, Kd.F_below h.2 hb⟩
theorem setG (h : RowAt W B G A c x) (i : Nat) (u : Value) : RowAt (W.setCell ⟨G, i, none⟩ u) B G A c x := ⟨h.1, Kd.F_far h.2 (fun k hk => hk.2) u⟩
theorem fresh {w0 : World} {cap : Nat} {L : List (List Int)} {dn e : Nat} {v : Value} (h : WorkIs w0 W B G cap L dn) (hr : Kd.R (Kd.int .u8) e W' W.heap.size (fun _ => True) v x) : ∃ A c, v = .slice A x.length c ∧ RowAt W' B G A c x := by
  obtain ⟨A, c, rfl, hl, _⟩ := Kd.R_reads hr
  refine ⟨A, c, rfl, hl, Kd.R_F (Kd.R_mono (Kd.R_bound hr) fun k hk => ?_)⟩
  have h1 := WorkIs.heap_lt' h.blk
  have h2 := Kd.N_lt h.rows G (by simp [Value.ownBlock])
  exact ⟨by omega, by omega⟩
end RowAt
end Go.Proofs.Ythgpmneplpdeiaa.Hand
end

section
set_option linter.unusedVariables false
set_option linter.unusedSimpArgs false
namespace Go.Proofs.Ythgpmneplpdeiaa.Hand
open Go.RowKit Go.Proofs.YthgpmneplpdeiaaW.PrintWords Go.Proofs.YthgpmneplpdeiaaW.PrintLast Go.Proofs.YthgpmneplpdeiaaW.PrintMore
def addS (r s : List Int) (c : Int) : List Int := List.zipWith (fun x y => xr x (gm y c)) r s
def clr (L : List (List Int)) (dn lead i : Nat) : List (List Int) := (List.range L.length).map fun j => if j < i ∧ j ≠ dn then addS (L.getD j []) (L.getD dn []) ((L.getD j []).getD lead 0) else L.getD j []
theorem clr_length (L : List (List Int)) (dn lead i : Nat) : (clr L dn lead i).length = L.length := by simp [clr]
theorem clr_zero (L : List (List Int)) (dn lead : Nat) : clr L dn lead 0 = L := by
  refine List.ext_getElem (clr_length _ _ _ _) fun j h1 h2 => ?_
  simp [clr, h2]
theorem clr_at (L : List (List Int)) (dn lead i j : Nat) (h : j < L.length) (hj : i ≤ j ∨ j = dn) : (clr L dn lead i)[j]'(by rw [clr_length]; exact h) = L[j] := by
  simp only [clr, List.getElem_map, List.getElem_range]
  rw [if_neg (by omega)]
  simp [h]
theorem clr_skip (L : List (List Int)) (dn lead : Nat) : clr L dn lead (dn + 1) = clr L dn lead dn := by
  unfold clr
  refine List.map_congr_left fun j _ => ?_
  by_cases h : j < dn ∧ j ≠ dn
  · rw [if_pos h, if_pos (by omega)]
  · rw [if_neg h, if_neg (by omega)]
theorem clr_set (L : List (List Int)) (dn lead i : Nat) (hi : i < L.length) (hd : dn < L.length) (hne : i ≠ dn) : (clr L dn lead i).set i (addS L[i] L[dn] (rd L[i] (lead : Int))) = clr L dn lead (i + 1) := by
  refine List.ext_getElem (by simp [clr]) fun j h1 h2 => ?_
  rw [clr_length] at h2
  by_cases e : j = i
  · subst e
    rw [List.getElem_set_self]
    simp only [clr, List.getElem_map, List.getElem_range]
    rw [if_pos (by omega)]
    simp [hi, hd, rd]
  · rw [List.getElem_set_ne (fun q => e q.symm)]
    simp only [clr, List.getElem_map, List.getElem_range]
    by_cases h : j < i ∧ j ≠ dn
    · rw [if_pos h, if_pos (by omega)]
    · rw [if_neg h, if_neg (by omega)]
set_option maxHeartbeats 4000000 in
set_option maxRecDepth 100000 in
theorem clear_calls (w0 W : World) (B G cap : Nat) (L : List (List Int)) (dn lead n : Nat) (h : WorkIs w0 W B G cap L dn) (hd : dn < L.length) (hL : ∀ r ∈ L, r.length = n ∧ areB r) (hn : n ≤ vN) (hl : lead < n) (hLm : L.length < 1000000000) :
    Calls Try.prog 64 #[.pointer (some ⟨B, 0, none⟩), .int .i64 (lead : Int)] W fun e W' => e = .returned (.tuple #[]) ∧ WorkIs w0 W' B G cap (clr L dn lead L.length) (dn + 1) := by
  obtain ⟨Ao, co, ho0, ho1, hoR⟩ := h.row dn hd
  have pd := eq_true (show (0 : Int) ≤ (dn : Int) by omega)
  have qd := eq_true (show (dn : Int) < (L.length : Int) by omega)
  have qd2 := eq_true hd
  have HL := Aside0.mk hL
  clear hL
  go_enter Try.func64, Try.ntmps64
  try go_wp2
  refine start_ (n := 11) (S := fun w' => w'.cell? ⟨B, 0, none⟩ = some (.slice (some ⟨G, 0, none⟩) L.length cap) ∧ w'.cell? ⟨B, 1, none⟩ = some (.int .i64 (dn : Int)) ∧ w'.cell? ⟨G, dn, none⟩ = some (.slice Ao L[dn].length co)) (ds := []) #[false, false, false, false, false, false, false, false, false, false, false] (by kernel_rfl) rfl rfl ⟨(by simpa using h.cell0), (by simpa using h.cell1), (by simpa using ho0)⟩ (fun hHeld => ?_)
  refine pure_ (i := 0) (N := some 7) (v := ?_) (a' := ?_) #[true, false, false, false, false, false, false, false, false, false, false] rfl rfl (by kernel_rfl) (fun _ _ _ h => h) (Or.inl ⟨by rfl, ?_⟩) ?_ ?_
  rotate_left
  · intro w'
    go_simp
    with_reducible rfl
  rotate_left
  · simp only [Act.put, List.setIfInBounds_toArray, List.set_cons_zero, List.set_cons_succ, i64_w, i32_w]
    rfl
  refine pure_ (i := 1) (N := some 8) (v := ?_) (a' := ?_) #[true, true, false, false, false, false, false, false, false, false, false] rfl rfl (by kernel_rfl) (fun _ _ _ h => h) (Or.inl ⟨by rfl, ?_⟩) ?_ ?_
  rotate_left
  · intro w'
    go_simp
    with_reducible rfl
  rotate_left
  · simp only [Act.put, List.setIfInBounds_toArray, List.set_cons_zero, List.set_cons_succ, i64_w, i32_w]
    rfl
  refine pure_ (i := 2) (N := some 9) (v := ?_) (a' := ?_) #[true, true, true, false, false, false, false, false, false, false, false] rfl rfl (by kernel_rfl) (fun _ _ _ h => h) (Or.inl ⟨by rfl, ?_⟩) ?_ ?_
  rotate_left
  · intro w'
    go_simp
    with_reducible rfl
  rotate_left
  · simp only [Act.put, List.setIfInBounds_toArray, List.set_cons_zero, List.set_cons_succ, i64_w, i32_w]
    rfl
  refine pure_ (i := 4) (N := some 11) (v := ?_) (a' := ?_) #[true, true, true, false, true, false, false, false, false, false, false] rfl rfl (by kernel_rfl) (fun _ _ _ h => h) (Or.inl ⟨by rfl, ?_⟩) ?_ ?_
  rotate_left
  · intro w'
    go_simp
    with_reducible rfl
  rotate_left
  · simp only [Act.put, List.setIfInBounds_toArray, List.set_cons_zero, List.set_cons_succ, i64_w, i32_w]
    rfl
  refine pure_ (i := 5) (N := some 12) (v := ?_) (a' := ?_) #[true, true, true, false, true, true, false, false, false, false, false] rfl rfl (by kernel_rfl) (fun _ _ _ h => h) (Or.inl ⟨by rfl, ?_⟩) ?_ ?_
  rotate_left
  · intro w'
    go_simp
    with_reducible rfl
  rotate_left
  · simp only [Act.put, List.setIfInBounds_toArray, List.set_cons_zero, List.set_cons_succ, i64_w, i32_w]
    rfl
  refine pure_ (i := 6) (N := some 13) (v := ?_) (a' := ?_) #[true, true, true, false, true, true, true, false, false, false, false] rfl rfl (by kernel_rfl) (fun _ _ _ h => h) (Or.inl ⟨by rfl, ?_⟩) ?_ ?_
  rotate_left
  · intro w'
    go_simp
    with_reducible rfl
  rotate_left
  · simp only [Act.put, List.setIfInBounds_toArray, List.set_cons_zero, List.set_cons_succ, i64_w, i32_w]
    rfl
  refine take_ (i := 3) (N := some 10) (v := ?_) (a' := ?_) #[true, true, true, true, true, true, true, false, false, false, false] rfl rfl (by kernel_rfl) (fun _ _ _ h => h) (Or.inl ⟨by rfl, ?_⟩) hHeld ?_ ?_
  rotate_left
  · rintro w' ⟨s0, s1, s2⟩
    go_simp
    with_reducible rfl
  rotate_left
  · simp only [Act.put, List.setIfInBounds_toArray, List.set_cons_zero, List.set_cons_succ, i64_w, i32_w]
    rfl
  refine take_ (i := 7) (N := some 14) (v := ?_) (a' := ?_) #[true, true, true, true, true, true, true, true, false, false, false] rfl rfl (by kernel_rfl) (fun _ _ _ h => h) (Or.inl ⟨by rfl, ?_⟩) hHeld ?_ ?_
  rotate_left
  · rintro w' ⟨s0, s1, s2⟩
    go_simp
    with_reducible rfl
  rotate_left
  · simp only [Act.put, List.setIfInBounds_toArray, List.set_cons_zero, List.set_cons_succ, i64_w, i32_w]
    rfl
  refine pure_ (i := 8) (N := some 15) (v := ?_) (a' := ?_) #[true, true, true, true, true, true, true, true, true, false, false] rfl rfl (by kernel_rfl) (fun _ _ _ h => h) (Or.inl ⟨by rfl, ?_⟩) ?_ ?_
  rotate_left
  · intro w'
    go_simp
    with_reducible rfl
  rotate_left
  · simp only [Act.put, List.setIfInBounds_toArray, List.set_cons_zero, List.set_cons_succ, i64_w, i32_w]
    rfl
  refine take_ (i := 9) (N := some 16) (v := ?_) (a' := ?_) #[true, true, true, true, true, true, true, true, true, true, false] rfl rfl (by kernel_rfl) (fun _ _ _ h => h) (Or.inl ⟨by rfl, ?_⟩) hHeld ?_ ?_
  rotate_left
  · rintro w' ⟨s0, s1, s2⟩
    go_simp
    with_reducible rfl
  rotate_left
  · simp only [Act.put, List.setIfInBounds_toArray, List.set_cons_zero, List.set_cons_succ, i64_w, i32_w]
    rfl
  refine pure_ (i := 10) (N := some 4) (v := ?_) (a' := ?_) #[true, true, true, true, true, true, true, true, true, true, true] rfl rfl (by kernel_rfl) (fun _ _ _ h => h) (Or.inl ⟨by rfl, ?_⟩) ?_ ?_
  rotate_left
  · intro w'
    go_simp
    with_reducible rfl
  rotate_left
  · simp only [Act.put, List.setIfInBounds_toArray, List.set_cons_zero, List.set_cons_succ, i64_w, i32_w]
    rfl
  refine done_ (by kernel_rfl) ?_
  have HW := Aside0.mk (h.step (below_drew (Below.refl W.heap.size W)))
  have HO := Aside0.mk (hoR.step (below_drew (Below.refl W.heap.size W)))
  have Hne := Aside0.mk h.gb
  clear hHeld ho0 ho1 hoR h pd qd qd2
  generalize W.drew = W1 at HW HO ⊢
  have hb0 := HW.out.cell0
  go_wp2
  clear hb0
  go_loopg [22] L.length (fun kq v22 w' => ∃ i : Nat, v22 = .int .i64 (i : Int) ∧ Aside0 (kq + i = L.length) ∧ Aside0 (WorkIs w0 w' B G cap (clr L dn lead i) dn) ∧ Aside0 (RowAt w' B G Ao co L[dn]))
  case atStart => exact ⟨0, rfl, ⟨rfl⟩, ⟨by rw [clr_zero]; exact HW.out⟩, HO⟩
  case round =>
    clear HW HO
    obtain ⟨i, rfl, HI, HW, HO⟩ := hrel
    have pI : (0 : Int) ≤ (i : Int) := by omega
    have hbd : (i : Int) ≤ 1000000000 := by have := HI.out; omega
    by_cases hi : i < L.length
    · obtain ⟨Ai, ci, hi0, hi1, hiR⟩ := HW.out.row i (by rw [clr_length]; exact hi)
      rw [clr_at L dn lead i i hi (Or.inl (Nat.le_refl _))] at hi0 hiR
      have HR := Aside0.mk hiR
      clear hiR
      have hLi := HL.out _ (List.getElem_mem hi)
      have hLd := HL.out _ (List.getElem_mem hd)
      have pl := show (0 : Int) ≤ (lead : Int) by omega
      have ql := show (lead : Int) < (L[i].length : Int) by omega
      obtain ⟨adi, ei, hxi⟩ := Kd.at_int HR.out.reads (lead : Int) pl ql
      cases ei
      rw [Int.toNat_natCast] at hxi
      have HS := Aside0.mk (show vector_AddScaled.f L[i] L[dn] (rd L[i] (lead : Int)) = some (addS L[i] L[dn] (rd L[i] (lead : Int)), 0) from by
        unfold vector_AddScaled.f
        rw [if_pos (by omega), if_pos ⟨by omega, hLd.2, hLi.2 _ (rd_mem pl ql)⟩]; rfl)
      have ql2 := eq_true (show lead < L[i].length by omega)
      replace pl := eq_true pl
      replace ql := eq_true ql
      clear hLi hLd
      have Hi := Aside0.mk hi
      have qI := eq_true (show (i : Int) < (L.length : Int) by omega)
      have qI1 : decide ((i : Int) < (L.length : Int)) = true := decide_eq_true (by omega)
      have qI2 := eq_true hi
      replace pI := eq_true pI
      have hb1 := HW.out.cell1
      cases gk with
      | zero => exact absurd HI.out (by omega)
      | succ k1 =>
        by_cases hid : i = dn
        · subst hid
          have t1 : ((i : Int) != (i : Int)) = false := by simp
          go_wp2
          go_roundg k1
          case measure => omega
          case rel => exact ⟨i + 1, by go_num, ⟨by have := HI.out; omega⟩, ⟨by rw [clr_skip]; exact HW.out⟩, HO⟩
        · have t1 : ((i : Int) != (dn : Int)) = true := by simp; omega
          have t2 : ((i : Int) == (dn : Int)) = false := by simp; omega
          have hb0 : wr.cell? ⟨B, 0, none⟩ = some (.slice (some ⟨G, 0, none⟩) L.length cap) := by simpa [clr_length] using HW.out.cell0
          go_wp2
          refine start_ (n := 17) (S := fun w' => w'.cell? ⟨B, 0, none⟩ = some (.slice (some ⟨G, 0, none⟩) L.length cap) ∧ w'.cell? (adi.add lead) = some (.int .u8 (rd L[i] (lead : Int)))) (ds := [16]) #[false, false, false, false, false, false, false, false, false, false, false, false, false, false, false, false, false] (by kernel_rfl) rfl rfl ⟨(by simpa [clr_length] using HW.out.cell0), (by simpa using hxi)⟩ (fun hHeld => ?_)
          have n0_ := Aside0.mk (HW.out.step (below_drew (Below.refl _ _)))
          have n1_ := Aside0.mk (HO.out.step (below_drew (Below.refl _ _)))
          have n2_ := Aside0.mk (HR.out.step (below_drew (Below.refl _ _)))
          clear HW HO HR
          have HW := n0_
          have HO := n1_
          have HR := n2_
          clear n0_ n1_ n2_ hi0 hi1 hb1 hxi hb0
          generalize wr.drew = w5 at HW HO HR hHeld ⊢
          refine pure_ (i := 0) (N := some 34) (v := ?_) (a' := ?_) #[true, false, false, false, false, false, false, false, false, false, false, false, false, false, false, false, false] rfl rfl (by kernel_rfl) (fun _ _ _ h => h) (Or.inl ⟨by rfl, ?_⟩) ?_ ?_
          rotate_left
          · intro w'
            go_simp
            with_reducible rfl
          rotate_left
          · simp only [Act.put, List.setIfInBounds_toArray, List.set_cons_zero, List.set_cons_succ, i64_w, i32_w]
            rfl
          refine pure_ (i := 1) (N := some 35) (v := ?_) (a' := ?_) #[true, true, false, false, false, false, false, false, false, false, false, false, false, false, false, false, false] rfl rfl (by kernel_rfl) (fun _ _ _ h => h) (Or.inl ⟨by rfl, ?_⟩) ?_ ?_
          rotate_left
          · intro w'
            go_simp
            with_reducible rfl
          rotate_left
          · simp only [Act.put, List.setIfInBounds_toArray, List.set_cons_zero, List.set_cons_succ, i64_w, i32_w]
            rfl
          refine pure_ (i := 2) (N := some 36) (v := ?_) (a' := ?_) #[true, true, true, false, false, false, false, false, false, false, false, false, false, false, false, false, false] rfl rfl (by kernel_rfl) (fun _ _ _ h => h) (Or.inl ⟨by rfl, ?_⟩) ?_ ?_
          rotate_left
          · intro w'
            go_simp
            with_reducible rfl
          rotate_left
          · simp only [Act.put, List.setIfInBounds_toArray, List.set_cons_zero, List.set_cons_succ, i64_w, i32_w]
            rfl
          refine pure_ (i := 4) (N := some 38) (v := ?_) (a' := ?_) #[true, true, true, false, true, false, false, false, false, false, false, false, false, false, false, false, false] rfl rfl (by kernel_rfl) (fun _ _ _ h => h) (Or.inl ⟨by rfl, ?_⟩) ?_ ?_
          rotate_left
          · intro w'
            go_simp
            with_reducible rfl
          rotate_left
          · simp only [Act.put, List.setIfInBounds_toArray, List.set_cons_zero, List.set_cons_succ, i64_w, i32_w]
            rfl
          refine pure_ (i := 5) (N := some 39) (v := ?_) (a' := ?_) #[true, true, true, false, true, true, false, false, false, false, false, false, false, false, false, false, false] rfl rfl (by kernel_rfl) (fun _ _ _ h => h) (Or.inl ⟨by rfl, ?_⟩) ?_ ?_
          rotate_left
          · intro w'
            go_simp
            with_reducible rfl
          rotate_left
          · simp only [Act.put, List.setIfInBounds_toArray, List.set_cons_zero, List.set_cons_succ, i64_w, i32_w]
            rfl
          refine pure_ (i := 6) (N := some 40) (v := ?_) (a' := ?_) #[true, true, true, false, true, true, true, false, false, false, false, false, false, false, false, false, false] rfl rfl (by kernel_rfl) (fun _ _ _ h => h) (Or.inl ⟨by rfl, ?_⟩) ?_ ?_
          rotate_left
          · intro w'
            go_simp
            with_reducible rfl
          rotate_left
          · simp only [Act.put, List.setIfInBounds_toArray, List.set_cons_zero, List.set_cons_succ, i64_w, i32_w]
            rfl
          refine pure_ (i := 7) (N := some 41) (v := ?_) (a' := ?_) #[true, true, true, false, true, true, true, true, false, false, false, false, false, false, false, false, false] rfl rfl (by kernel_rfl) (fun _ _ _ h => h) (Or.inl ⟨by rfl, ?_⟩) ?_ ?_
          rotate_left
          · intro w'
            go_simp
            with_reducible rfl
          rotate_left
          · simp only [Act.put, List.setIfInBounds_toArray, List.set_cons_zero, List.set_cons_succ, i64_w, i32_w]
            rfl
          refine pure_ (i := 8) (N := some 42) (v := ?_) (a' := ?_) #[true, true, true, false, true, true, true, true, true, false, false, false, false, false, false, false, false] rfl rfl (by kernel_rfl) (fun _ _ _ h => h) (Or.inl ⟨by rfl, ?_⟩) ?_ ?_
          rotate_left
          · intro w'
            go_simp
            with_reducible rfl
          rotate_left
          · simp only [Act.put, List.setIfInBounds_toArray, List.set_cons_zero, List.set_cons_succ, i64_w, i32_w]
            rfl
          refine pure_ (i := 9) (N := some 43) (v := ?_) (a' := ?_) #[true, true, true, false, true, true, true, true, true, true, false, false, false, false, false, false, false] rfl rfl (by kernel_rfl) (fun _ _ _ h => h) (Or.inl ⟨by rfl, ?_⟩) ?_ ?_
          rotate_left
          · intro w'
            go_simp
            with_reducible rfl
          rotate_left
          · simp only [Act.put, List.setIfInBounds_toArray, List.set_cons_zero, List.set_cons_succ, i64_w, i32_w]
            rfl
          refine take_ (i := 3) (N := some 37) (v := ?_) (a' := ?_) #[true, true, true, true, true, true, true, true, true, true, false, false, false, false, false, false, false] rfl rfl (by kernel_rfl) (fun _ _ _ h => h) (Or.inl ⟨by rfl, ?_⟩) hHeld ?_ ?_
          rotate_left
          · rintro w' ⟨s0, s1⟩
            go_simp
            with_reducible rfl
          rotate_left
          · simp only [Act.put, List.setIfInBounds_toArray, List.set_cons_zero, List.set_cons_succ, i64_w, i32_w]
            rfl
          refine take_ (i := 10) (N := some 44) (v := ?_) (a' := ?_) #[true, true, true, true, true, true, true, true, true, true, true, false, false, false, false, false, false] rfl rfl (by kernel_rfl) (fun _ _ _ h => h) (Or.inl ⟨by rfl, ?_⟩) hHeld ?_ ?_
          rotate_left
          · rintro w' ⟨s0, s1⟩
            go_simp
            with_reducible rfl
          rotate_left
          · simp only [Act.put, List.setIfInBounds_toArray, List.set_cons_zero, List.set_cons_succ, i64_w, i32_w]
            rfl
          refine one_ (i := 11) (N := some 45) #[true, true, true, true, true, true, true, true, true, true, true, true, false, false, false, false, false] rfl rfl (by kernel_rfl) (by decide) (fun K hK => ?_)
          refine goes_ Try.func34 (by kernel_rfl) rfl #[.slice (some adi) L[i].length ci, .slice Ao L[dn].length co, .int .u8 (rd L[i] (lead : Int))] (by rfl) rfl rfl (by simp only [List.map_toArray, List.map_cons, List.map_nil]; rfl) ?_
          with_reducible refine (vector_AddScaled.calls (some adi) ci L[i] Ao co L[dn] (rd L[i] (lead : Int)) (addS L[i] L[dn] (rd L[i] (lead : Int))) 0 _ HR.out.reads HR.out.len HO.out.reads HO.out.len HS.out).mono ?_
          rintro e w2 ⟨v0, rfl, hR, hb⟩
          refine ⟨_, rfl, ?_⟩
          obtain ⟨An, cn, rfl, hN⟩ := RowAt.fresh HW.out hR
          have HW2 := Aside0.mk (HW.out.step hb)
          have HO2 := Aside0.mk (HO.out.step hb)
          have HN := Aside0.mk hN
          have hxi2 := (hb.cell (World.block_lt_of_cell? _ _ hHeld.2)).trans hHeld.2
          obtain ⟨Az, cz, hz0, hz1, _⟩ := HW2.out.row i (by rw [clr_length]; exact Hi.out)
          clear hR hb hN
          refine hK.out _ _ ⟨(by simpa [clr_length] using HW2.out.cell0), hxi2⟩ (fun hHeld => ?_)
          clear hK K
          refine norm_ (a' := ?_) ?_ ?_
          rotate_left
          · show Act.put _ (some 45) _ = _
            simp only [Act.put, List.setIfInBounds_toArray, List.set_cons_zero, List.set_cons_succ, i64_w, i32_w]
            rfl
          refine pure_ (i := 12) (N := some 33) (v := ?_) (a' := ?_) #[true, true, true, true, true, true, true, true, true, true, true, true, true, false, false, false, false] rfl rfl (by kernel_rfl) (fun _ _ _ h => h) (Or.inl ⟨by rfl, ?_⟩) ?_ ?_
          rotate_left
          · intro w'
            go_simp
            with_reducible rfl
          rotate_left
          · simp only [Act.put, List.setIfInBounds_toArray, List.set_cons_zero, List.set_cons_succ, i64_w, i32_w]
            rfl
          refine pure_ (i := 13) (N := some 46) (v := ?_) (a' := ?_) #[true, true, true, true, true, true, true, true, true, true, true, true, true, true, false, false, false] rfl rfl (by kernel_rfl) (fun _ _ _ h => h) (Or.inl ⟨by rfl, ?_⟩) ?_ ?_
          rotate_left
          · intro w'
            go_simp
            with_reducible rfl
          rotate_left
          · simp only [Act.put, List.setIfInBounds_toArray, List.set_cons_zero, List.set_cons_succ, i64_w, i32_w]
            rfl
          refine pure_ (i := 14) (N := some 47) (v := ?_) (a' := ?_) #[true, true, true, true, true, true, true, true, true, true, true, true, true, true, true, false, false] rfl rfl (by kernel_rfl) (fun _ _ _ h => h) (Or.inl ⟨by rfl, ?_⟩) ?_ ?_
          rotate_left
          · intro w'
            go_simp
            with_reducible rfl
          rotate_left
          · simp only [Act.put, List.setIfInBounds_toArray, List.set_cons_zero, List.set_cons_succ, i64_w, i32_w]
            rfl
          refine pure_ (i := 15) (N := some 48) (v := ?_) (a' := ?_) #[true, true, true, true, true, true, true, true, true, true, true, true, true, true, true, true, false] rfl rfl (by kernel_rfl) (fun _ _ _ h => h) (Or.inl ⟨by rfl, ?_⟩) ?_ ?_
          rotate_left
          · intro w'
            go_simp
            with_reducible rfl
          rotate_left
          · simp only [Act.put, List.setIfInBounds_toArray, List.set_cons_zero, List.set_cons_succ, i64_w, i32_w]
            rfl
          refine last_ (i := 16) (N := none) #[true, true, true, true, true, true, true, true, true, true, true, true, true, true, true, true, true] rfl rfl (by kernel_rfl) (by decide) (fun K hK => ?_)
          refine skip_ (w1 := ?_) (by rfl) rfl ?_ ?_
          rotate_left
          · go_simp
            rfl
          refine hK.out _ _ ?_
          clear hK K
          refine done_ (by kernel_rfl) ?_
          go_wp2
          go_roundg k1
          case measure => omega
          case rel => exact ⟨i + 1, by go_num, ⟨by have := HI.out; omega⟩, ⟨by have := HW2.out.put i (by rw [clr_length]; exact Hi.out) HN.out; rwa [clr_set L dn lead i Hi.out hd hid] at this⟩, ⟨HO2.out.setG i _⟩⟩
    · have hbb := HW.out.cell1
      have hfr := HW.out.free 1
      have qI1 : decide ((i : Int) < (L.length : Int)) = false := decide_eq_false (by omega)
      have hdb : (dn : Int) ≤ 1000000000 := by omega
      have hd0 : (0 : Int) ≤ (dn : Int) := by omega
      go_wp2
      go_end0
      have e : i = L.length := by have := HI.out; omega
      subst e
      exact ⟨rfl, by simpa using HW.out.count⟩
end Go.Proofs.Ythgpmneplpdeiaa.Hand
end
