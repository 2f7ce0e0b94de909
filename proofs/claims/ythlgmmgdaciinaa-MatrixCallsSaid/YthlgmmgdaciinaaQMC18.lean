/- QMC, part 18: HCheck PlRanks PlForm PlInsert. -/
import Derived.Test.YthlgmmgdaciinaaQMC17

section
set_option linter.unusedVariables false
set_option linter.unusedSimpArgs false
namespace Go.Proofs.Ythlgmmgdaciinaa.Plain
open Go.Proofs.Ythlgmmgdaciinaa.Hand Go.RowKit Go.Proofs.YthlgmmgdaciinaaW.PrintWords Go.Proofs.YthlgmmgdaciinaaW.PrintLast Go.Proofs.YthlgmmgdaciinaaW.PrintMore
def Row8 (W : World) (b : Nat) (v : Value) (n : Nat) : Prop := ∃ A c, v = .slice A n c ∧ (0 < n → ∃ g cells, A = some ⟨g, 0, none⟩ ∧ b ≤ g ∧ W.heap[g]? = some (.cells cells 5 (0, 0)) ∧ ∀ i, i < n → ∃ x, cells[i]? = some (.int .u8 x))
theorem Row8.of_R {W : World} {b : Nat} {ok : Nat → Prop} {v : Value} {xs : List Int} (h : Kd.R (Kd.int .u8) 5 W b ok v xs) : Row8 W b v xs.length := by
  obtain ⟨A, c, rfl⟩ := Kd.R_slice h
  refine ⟨A, c, rfl, fun hp => ?_⟩
  obtain ⟨g, cap, e, hg, _, cells, hc⟩ := Kd.R_form h hp
  injection e with e1 e2 e3
  subst e1 e3
  refine ⟨g, cells, rfl, hg, hc, fun i hi => ?_⟩
  have := (Kd.R_celln (0 : Int) h (i : Int) (by omega) (by omega)).1
  rw [Int.toNat_natCast] at this
  simp [World.cell?, hc] at this
  exact ⟨_, this⟩
theorem Row8.step {W W' : World} {b : Nat} {v : Value} {n : Nat} (h : Row8 W b v n) (hb : Below W.heap.size W W') : Row8 W' b v n := by
  obtain ⟨A, c, rfl, h⟩ := h
  refine ⟨A, c, rfl, fun hp => ?_⟩
  obtain ⟨g, cells, e, hg, hc, hx⟩ := h hp
  refine ⟨g, cells, e, hg, (hb.block g ?_).trans hc, hx⟩
  rcases Nat.lt_or_ge g W.heap.size with q | q
  · exact q
  · rw [Array.getElem?_eq_none q] at hc; cases hc
theorem Row8.set {W : World} {b : Nat} {v : Value} {n : Nat} (h : Row8 W b v n) (g' j : Nat) (y : Int) : Row8 (W.setCell ⟨g', j, none⟩ (.int .u8 y)) b v n := by
  obtain ⟨A, c, rfl, h⟩ := h
  refine ⟨A, c, rfl, fun hp => ?_⟩
  obtain ⟨g, cells, e, hg, hc, hx⟩ := h hp
  by_cases q : g = g'
  · subst q
    refine ⟨g, cells.setIfInBounds j (.int .u8 y), e, hg, ?_, fun i hi => ?_⟩
    · simp only [World.setCell, Array.getElem?_modify, if_true, hc, Option.map_some]
      simp
    · obtain ⟨x, hx⟩ := hx i hi
      by_cases r : j = i
      · subst r
        have hlt : j < cells.size := by
          rcases Nat.lt_or_ge j cells.size with q | q
          · exact q
          · rw [Array.getElem?_eq_none q] at hx; cases hx
        exact ⟨y, by simp [hlt]⟩
      · exact ⟨x, by rw [Array.getElem?_setIfInBounds_ne r]; exact hx⟩
  · exact ⟨g, cells, e, hg, (Below.heap_setCell _ _ _ _ q).trans hc, hx⟩
theorem Row8.get {W : World} {b : Nat} {v : Value} {n i : Nat} (h : Row8 W b v n) (hi : i < n) : ∃ g c x, v = .slice (some ⟨g, 0, none⟩) n c ∧ b ≤ g ∧ W.cell? ⟨g, i, none⟩ = some (.int .u8 x) ∧ W.frozen? ⟨g, i, none⟩ = false := by
  obtain ⟨A, c, rfl, h⟩ := h
  obtain ⟨g, cells, rfl, hg, hc, hx⟩ := h (by omega)
  obtain ⟨x, hx⟩ := hx i hi
  exact ⟨g, c, x, rfl, hg, by simp [World.cell?, hc, hx], by simp [World.frozen?, hc]⟩
def Rows8 (W : World) (b : Nat) (v : Value) (n : Nat) : Prop := ∃ A c, v = .slice A n c ∧ (0 < n → ∃ g outer, A = some ⟨g, 0, none⟩ ∧ b ≤ g ∧ W.heap[g]? = some (.cells outer 22 (0, 0)) ∧ ∀ i, i < n → ∃ A' m c', outer[i]? = some (.slice A' m c') ∧ m ≤ 1000000 ∧ Row8 W b (.slice A' m c') m)
theorem Rows8.of_R {W : World} {b : Nat} {ok : Nat → Prop} {v : Value} {xs : List (List Int)} (h : Kd.R rowK 22 W b ok v xs) (hm : ∀ i, (xs.getD i []).length ≤ 1000000) : Rows8 W b v xs.length := by
  obtain ⟨A, c, rfl⟩ := Kd.R_slice h
  refine ⟨A, c, rfl, fun hp => ?_⟩
  obtain ⟨g, cap, e, hg, _, cells, hc⟩ := Kd.R_form h hp
  injection e with e1 e2 e3
  subst e1 e3
  refine ⟨g, cells, rfl, hg, hc, fun i hi => ?_⟩
  obtain ⟨cs, h1, h2, h3, _⟩ := Kd.R_elem h [] (i : Int) (by omega) (by omega)
  obtain ⟨v', rfl, hR⟩ := h2
  obtain ⟨A', c', rfl⟩ := Kd.R_slice hR
  have h4 := h3 0 _ rfl
  rw [Int.toNat_natCast, show (rowK).sz = 1 from rfl, Nat.mul_one, Nat.add_zero] at h4
  simp only [World.cell?, hc] at h4
  refine ⟨A', _, c', by simpa using h4, by simpa using hm i, ?_⟩
  exact Row8.of_R hR
theorem Rows8.set {W : World} {b : Nat} {v : Value} {n : Nat} (h : Rows8 W b v n) {g' : Nat} {cells : Array Value} (hg : W.heap[g']? = some (.cells cells 5 (0, 0))) (j : Nat) (y : Int) : Rows8 (W.setCell ⟨g', j, none⟩ (.int .u8 y)) b v n := by
  obtain ⟨A, c, rfl, h⟩ := h
  refine ⟨A, c, rfl, fun hp => ?_⟩
  obtain ⟨g, outer, e, hb, hc, hx⟩ := h hp
  have hne : g ≠ g' := fun q => by
    rw [q, hg] at hc
    injection hc with hc
    injection hc with _ hc
    exact absurd hc (by decide)
  exact ⟨g, outer, e, hb, (Below.heap_setCell _ _ _ _ hne).trans hc, fun i hi => by
    obtain ⟨A', m, c', k1, k0, k2⟩ := hx i hi
    exact ⟨A', m, c', k1, k0, k2.set g' j y⟩⟩
theorem Rows8.get {W : World} {b : Nat} {v : Value} {n i : Nat} (h : Rows8 W b v n) (hi : i < n) : ∃ g c A' m c', v = .slice (some ⟨g, 0, none⟩) n c ∧ W.cell? ⟨g, i, none⟩ = some (.slice A' m c') ∧ m ≤ 1000000 ∧ Row8 W b (.slice A' m c') m := by
  obtain ⟨A, c, rfl, h⟩ := h
  obtain ⟨g, outer, rfl, hg, hc, hx⟩ := h (by omega)
  obtain ⟨A', m, c', k1, k0, k2⟩ := hx i hi
  exact ⟨g, c, A', m, c', rfl, by simp [World.cell?, hc, k1], k0, k2⟩
theorem Row8.at {W : World} {b : Nat} {A' : Option Addr} {m c' i : Nat} (h : Row8 W b (.slice A' m c') m) (hi : i < m) : ∃ g x cells, A' = some ⟨g, 0, none⟩ ∧ b ≤ g ∧ W.cell? ⟨g, i, none⟩ = some (.int .u8 x) ∧ W.frozen? ⟨g, i, none⟩ = false ∧ W.heap[g]? = some (.cells cells 5 (0, 0)) := by
  obtain ⟨A, c, e, h⟩ := h
  injection e with e1 e2 e3
  subst e1 e3
  obtain ⟨g, cells, rfl, hg, hc, hx⟩ := h (by omega)
  obtain ⟨x, hx⟩ := hx i hi
  exact ⟨g, x, cells, rfl, hg, by simp [World.cell?, hc, hx], by simp [World.frozen?, hc], hc⟩
theorem below_flag {b B : Nat} {w : World} {T : TypeId} (h : w.heap[B]? = some (.cells #[.bool true] T (0, 0))) : Below b w (w.setCell ⟨B, 0, none⟩ (.bool true)) := by
  refine ⟨rfl, rfl, rfl, by simp [World.setCell], fun k hk => ?_⟩
  by_cases e : k = B
  · subst e
    simp only [World.setCell, Array.getElem?_modify, if_true, h, Option.map_some]
    simp
  · exact Below.heap_setCell _ _ _ _ e
theorem rows8_same {W W' : World} {b : Nat} {v : Value} {n : Nat} (h : Rows8 W b v n) (hb : Below W.heap.size W W') : Rows8 W' b v n := by
  obtain ⟨A, c, rfl, h⟩ := h
  refine ⟨A, c, rfl, fun hp => ?_⟩
  obtain ⟨g, outer, e, hg, hc, hx⟩ := h hp
  refine ⟨g, outer, e, hg, (hb.block g ?_).trans hc, fun i hi => ?_⟩
  · rcases Nat.lt_or_ge g W.heap.size with q | q
    · exact q
    · rw [Array.getElem?_eq_none q] at hc; cases hc
  · obtain ⟨A', m, c', k1, k0, k2⟩ := hx i hi
    exact ⟨A', m, c', k1, k0, k2.step hb⟩
theorem ck_next (k : Nat) (h : k ≤ 1000000000) : wrap64 ((k : Int) + 1) = ((k + 1 : Nat) : Int) := by unfold wrap64; omega
set_option maxHeartbeats 8000000 in
set_option maxRecDepth 100000 in
theorem check_calls (Al : Option Addr) (cl : Nat) (l : List (List Int)) (e0 : Int) (Am : Option Addr) (cm : Nat) (B b : Nat) (w : World) (Hl : Aside0 (Kd.C rowK w Al l.length l)) (Hm : Aside0 (Kd.C rowK w Am l.length l)) (HL : Aside0 (l.length < 1000)) (HB8 : Aside0 (∀ x ∈ l, areB x)) (HM : Aside0 (∀ x ∈ l, x.length < 1000))
    (HF : Aside0 (w.heap[B]? = some (.cells #[.bool true] 4 (0, 0)))) (HR : Aside0 (Rows8 w b (.slice Al l.length cl) l.length)) (hbw : Aside0 (b ≤ w.heap.size ∧ B < b)) :
    Calls Try.prog 26 #[.slice Al l.length cl, .int .i64 e0, .slice Am l.length cm, .int .i64 e0, .pointer (some ⟨B, 0, none⟩)] w fun e w' => e = .returned (.tuple #[]) ∧ Below b w w' := by
  have hc := show w.cell? ⟨B, 0, none⟩ = some (.bool true) from by simp [World.cell?, HF.out]
  go_enter Try.func26, Try.ntmps26
  clear hc
  have hc := show w.cell? ⟨B, 0, none⟩ = some (.bool true) from (by simp [World.cell?, HF.out])
  go_upto_region 1 with (go_at_call 27; with_reducible refine (refSame_calls Al cl l Am cm l _ Hl.out Hm.out (by have := HL.out; omega) HB8.out HB8.out).mono ?_; rintro e w1 ⟨rfl, hb⟩; have HF1 := Aside0.mk ((hb.block B (by have := hbw.out; omega)).trans HF.out); have HB := Aside0.mk hb; have hc1 := (show w1.cell? ⟨B, 0, none⟩ = some (.bool true) from (by simp [World.cell?, HF1.out])); have hz1 := (show w1.frozen? ⟨B, 0, none⟩ = false from (by simp [World.frozen?, HF1.out])); have hdd : decide (l = l) = true := decide_eq_true rfl; clear hb)
  clear hc hc1 hz1 hdd
  replace HR := Aside0.mk (show Rows8 (w1.setCell ⟨B, 0, none⟩ (.bool true)) b (.slice Al l.length cl) l.length from rows8_same (HR.out) (HB.out.trans ((below_flag (b := w.heap.size) HF1.out))))
  replace HB := Aside0.mk (show Below b w (w1.setCell ⟨B, 0, none⟩ (.bool true)) from (HB.out.mono hbw.out.1).trans (below_flag HF1.out))
  generalize w1.setCell ⟨B, 0, none⟩ (.bool true) = w2 at HR HB ⊢
  go_wp2
  go_loopg [9] l.length (fun kq v9 w' => ∃ i : Nat, v9 = .int .i64 (i : Int) ∧ Aside0 (kq + i = l.length) ∧ Aside0 (Rows8 w' b (.slice Al l.length cl) l.length) ∧ Aside0 (Below b w w'))
  case atStart => exact ⟨0, rfl, ⟨by omega⟩, HR, HB⟩
  case round =>
    clear HR HB
    obtain ⟨i, rfl, HI, HR, HB⟩ := hrel
    by_cases hi : i < l.length
    · have p0 : (0 : Int) ≤ (i : Int) := Int.natCast_nonneg _
      have p1 : (i : Int) < (l.length : Int) := Int.ofNat_lt.2 hi
      have q1 : decide ((i : Int) < (l.length : Int)) = true := decide_eq_true p1
      have q4 := eq_true p0
      have q5 := eq_true p1
      have q6 := eq_true hi
      have hnx := ck_next i (by have := HL.out; omega)
      have Hi := Aside0.mk hi
      clear p0 p1
      cases gk with
      | zero => exact absurd HI.out (by have := Hi.out; omega)
      | succ k1 =>
      go_wp2
      go_loopg [10] 1000001 (fun kq v10 w' => ∃ k : Nat, v10 = .int .i64 (k : Int) ∧ Aside0 (kq + k = 1000001) ∧ Aside0 (Rows8 w' b (.slice Al l.length cl) l.length) ∧ Aside0 (Below b w w'))
      case atStart => exact ⟨0, rfl, ⟨by omega⟩, HR, HB⟩
      case round =>
        clear HR HB
        obtain ⟨k, rfl, HK, HR, HB⟩ := hrel
        obtain ⟨g, c, A', m, c', ev, hcell, hm, h8⟩ := HR.out.get Hi.out
        injection ev with ev1 ev2 ev3
        subst ev1 ev3
        by_cases hk : k < m
        · obtain ⟨g', x, cells, rfl, hg', hcx, hfx, hbx⟩ := h8.at hk
          have r1 : decide ((k : Int) < (m : Int)) = true := decide_eq_true (Int.ofNat_lt.2 hk)
          have r4 := eq_true (Int.natCast_nonneg k)
          have r5 := eq_true (Int.ofNat_lt.2 hk)
          have r6 := eq_true hk
          have hnk := ck_next k (by omega)
          have HGX := Aside0.mk hg'
          have HBX := Aside0.mk hbx
          have KM := Aside0.mk (show k < 1000001 from by omega)
          clear hk hm h8 hg' hbx
          cases gk with
          | zero => exact absurd HK.out (by have := KM.out; omega)
          | succ k2 =>
          go_wp2
          go_roundg k2
          case measure => omega
          case rel => exact ⟨k + 1, by first | rfl | rw [hnk], ⟨by have := HK.out; omega⟩, ⟨HR.out.set HBX.out k _⟩, ⟨HB.out.setCell (p := ⟨g', k, none⟩) HGX.out _⟩⟩
        · have r1 : decide ((k : Int) < (m : Int)) = false := decide_eq_false (by omega)
          have r2 : decide (k < m) = false := decide_eq_false hk
          have r3 := eq_false hk
          clear hk hm h8
          go_wp2
          go_roundg k1
          case measure => omega
          case rel => exact ⟨i + 1, by first | rfl | rw [hnx], ⟨by have := HI.out; omega⟩, HR, HB⟩
    · have q1 : decide ((i : Int) < (l.length : Int)) = false := decide_eq_false (by omega)
      have q2 : decide (i < l.length) = false := decide_eq_false hi
      have q3 := eq_false hi
      clear hi
      go_wp2
      go_end0
      exact ⟨rfl, HB.out⟩
end Go.Proofs.Ythlgmmgdaciinaa.Plain
end

section
namespace Go.Proofs.Ythlgmmgdaciinaa.Plain
open Go.Proofs.Ythlgmmgdaciinaa.Hand Go.Proofs.Ythlgmmgdaciinaa.GF Go.Proofs.Ythlgmmgdaciinaa.LA Go.RowKit Go.Proofs.Ythlgmmgdaciinaa.P Go.Proofs.YthlgmmgdaciinaaW.PrintWords Go.Proofs.YthlgmmgdaciinaaW.PrintLast
end Go.Proofs.Ythlgmmgdaciinaa.Plain
end

section
namespace Go.Proofs.Ythlgmmgdaciinaa.Plain
open Go.Proofs.Ythlgmmgdaciinaa.Hand Go.Proofs.Ythlgmmgdaciinaa.GF Go.Proofs.Ythlgmmgdaciinaa.LA Go.RowKit Go.Proofs.Ythlgmmgdaciinaa.P Go.Proofs.YthlgmmgdaciinaaW.PrintWords Go.Proofs.YthlgmmgdaciinaaW.PrintLast
theorem getElem_getD (l : List Int) (j : Nat) (q : j < l.length) : l[j] = l.getD j 0 := by rw [List.getD_eq_getElem?_getD, List.getElem?_eq_getElem q]; rfl
theorem getD_B {n : Nat} {R : List (List Int)} (hR : Fits n R) (k x : Nat) : isB ((R.getD k []).getD x 0) := by
  by_cases h : k < R.length
  · have := rd_B (getD_fits hR h).2 (x : Int)
    unfold rd at this
    rwa [Int.toNat_natCast] at this
  · rw [show R.getD k [] = [] from by rw [List.getD_eq_getElem?_getD, List.getElem?_eq_none (by omega)]; rfl]
    exact (show isB 0 from ⟨by decide, by decide⟩)
theorem red_lead {n : Nat} {R : List (List Int)} {p : List Nat} (hR : Fits n R) (h : Red (vecs R) p) {i : Nat} (hi : i < R.length) :
    p.getD i 0 < n ∧ leadN (R.getD i []) = ((p.getD i 0 : Nat) : Int) ∧ ∀ k, k < R.length → (R.getD k []).getD (p.getD i 0) 0 = if k = i then 1 else 0 := by
  have hv : ∀ k, k < R.length → row (vecs R) k (p.getD i 0) = if k = i then 1#8 else 0#8 := fun k hk => h.one k i (by rw [vecs_length]; exact hk) (by rw [vecs_length]; exact hi)
  have hlt : p.getD i 0 < n := by
    refine Nat.lt_of_not_le fun hle => ?_
    have h1 := vecs_supp hR _ (row_mem (l := vecs R) (i := i) (by rw [vecs_length]; exact hi)) _ hle
    rw [hv i hi, if_pos rfl] at h1
    exact absurd h1 (by decide)
  have hval : ∀ k, k < R.length → (R.getD k []).getD (p.getD i 0) 0 = if k = i then 1 else 0 := fun k hk => by
    have h1 := hv k hk
    rw [vecs_row] at h1
    refine byte_eq (getD_B hR k _) (by split <;> exact ⟨by decide, by decide⟩) ?_
    show vec (R.getD k []) (p.getD i 0) = _
    rw [h1]
    by_cases e : k = i
    · rw [if_pos e, if_pos e]; rfl
    · rw [if_neg e, if_neg e]; rfl
  refine ⟨hlt, ?_, hval⟩
  have hRi := getD_fits hR hi
  have at_ : ∀ j (q : j < (R.getD i []).length), (R.getD i [])[j] = (R.getD i []).getD j 0 := fun j q => getElem_getD _ j q
  refine leadN_pos (by rw [hRi.1]; exact hlt) (by rw [at_, hval i hi, if_pos rfl]; decide) fun j hj => ?_
  rw [at_]
  refine byte_eq (getD_B hR i j) ⟨by decide, by decide⟩ ?_
  have h2 := h.low i (by rw [vecs_length]; exact hi) j hj
  rw [vecs_row] at h2
  exact h2
def leftL (R : List (List Int)) (l : List Int) : Nat → List Int
  | 0 => l
  | k + 1 => addS (leftL R l k) (R.getD k []) ((leftL R l k).getD (leadN (R.getD k [])).toNat 0)
theorem leftL_fits {n : Nat} {R : List (List Int)} (hR : Fits n R) {l : List Int} (hl : l.length = n ∧ areB l) : ∀ k, k ≤ R.length → (leftL R l k).length = n ∧ areB (leftL R l k)
  | 0, _ => hl
  | k + 1, h => addS_fits (leftL_fits hR hl k (by omega)).1 (getD_fits hR (by omega)).1 _
theorem leftL_vec {n : Nat} {R : List (List Int)} {p : List Nat} (hR : Fits n R) (h : Red (vecs R) p) {l : List Int} (hl : l.length = n ∧ areB l) : ∀ k, k ≤ R.length → vec (leftL R l k) = fun x => vec l x ^^^ S k (fun j => mul (vec l (p.getD j 0)) (row (vecs R) j x))
  | 0, _ => funext fun x => by show vec l x = vec l x ^^^ 0#8; rw [BitVec.xor_zero]
  | k + 1, hk => by
    have ih := leftL_vec hR h hl k (by omega)
    have hkR : k < R.length := by omega
    obtain ⟨a1, a2, a3⟩ := red_lead hR h hkR
    have hlen := (leftL_fits hR hl k (by omega)).1
    have hc : toG ((leftL R l k).getD (leadN (R.getD k [])).toNat 0) = vec l (p.getD k 0) := by
      rw [a2, Int.toNat_natCast]
      show vec (leftL R l k) (p.getD k 0) = _
      rw [ih]
      show vec l (p.getD k 0) ^^^ S k _ = _
      rw [S_zero fun j hj => by
        have := h.one j k (by rw [vecs_length]; omega) (by rw [vecs_length]; exact hkR)
        rw [this, if_neg (by omega), mul_zero]]
      exact BitVec.xor_zero
    show vec (addS (leftL R l k) (R.getD k []) _) = _
    unfold addS
    rw [vec_addScaled (by rw [hlen, (getD_fits hR hkR).1]), hc, ih]
    funext x
    show (vec l x ^^^ S k _) ^^^ mul _ (vec (R.getD k []) x) = vec l x ^^^ (S k _ ^^^ mul _ (row (vecs R) k x))
    rw [vecs_row, BitVec.xor_assoc]
end Go.Proofs.Ythlgmmgdaciinaa.Plain
end

section
namespace Go.Proofs.Ythlgmmgdaciinaa.Plain
open Go.Proofs.Ythlgmmgdaciinaa.Hand Go.Proofs.Ythlgmmgdaciinaa.GF Go.Proofs.Ythlgmmgdaciinaa.LA Go.RowKit Go.Proofs.YthlgmmgdaciinaaW.PrintWords Go.Proofs.YthlgmmgdaciinaaW.PrintLast
def clV (s : V) (k : Nat) (v : V) : V := va v (vs (v k) s)
theorem lay_row {M : List V} {s : V} {t : Nat} (f : V → V) (ht : t ≤ M.length) (i : Nat) : row ((M.take t).map f ++ [s] ++ (M.drop t).map f) i = if i < t then f (row M i) else if i = t then s else if i ≤ M.length then f (row M (i - 1)) else vz := by
  have hl : ((M.take t).map f).length = t := by rw [List.length_map, List.length_take]; omega
  unfold row
  rw [List.append_assoc]
  by_cases h1 : i < t
  · rw [if_pos h1, List.getD_eq_getElem?_getD, List.getElem?_append_left (by omega), List.getElem?_map, List.getElem?_take, if_pos h1, List.getD_eq_getElem?_getD, List.getElem?_eq_getElem (by omega)]; rfl
  · rw [if_neg h1, List.getD_eq_getElem?_getD, List.getElem?_append_right (by omega), hl]
    by_cases h2 : i = t
    · rw [if_pos h2, h2, Nat.sub_self]; rfl
    · rw [if_neg h2, List.getElem?_append_right (by rw [List.length_singleton]; omega), List.length_singleton, List.getElem?_map, List.getElem?_drop]
      by_cases h3 : i ≤ M.length
      · rw [if_pos h3, show t + (i - t - 1) = i - 1 from by omega, List.getD_eq_getElem?_getD, List.getElem?_eq_getElem (by omega)]; rfl
      · rw [if_neg h3, List.getElem?_eq_none (by omega)]; rfl
theorem lay_place {p : List Nat} {k t : Nat} (ht : t ≤ p.length) (i : Nat) : (p.take t ++ [k] ++ p.drop t).getD i 0 = if i < t then p.getD i 0 else if i = t then k else p.getD (i - 1) 0 := by
  have hl : (p.take t).length = t := by rw [List.length_take]; omega
  rw [List.append_assoc]
  by_cases h1 : i < t
  · rw [if_pos h1, List.getD_eq_getElem?_getD, List.getElem?_append_left (by omega), List.getElem?_take, if_pos h1, List.getD_eq_getElem?_getD]
  · rw [if_neg h1, List.getD_eq_getElem?_getD, List.getElem?_append_right (by omega), hl]
    by_cases h2 : i = t
    · rw [if_pos h2, h2, Nat.sub_self]; rfl
    · rw [if_neg h2, List.getElem?_append_right (by rw [List.length_singleton]; omega), List.length_singleton, List.getElem?_drop, show t + (i - t - 1) = i - 1 from by omega, List.getD_eq_getElem?_getD]
theorem red_lay {M : List V} {p : List Nat} (h : Red M p) {s : V} {k t : Nat} (hk : s k = 1#8) (hlow : ∀ x, x < k → s x = 0#8) (hp : ∀ j, j < M.length → s (p.getD j 0) = 0#8) (ht : t ≤ M.length) (h1 : ∀ j, j < t → p.getD j 0 < k) (h2 : ∀ j, t ≤ j → j < M.length → k < p.getD j 0) :
    Red ((M.take t).map (clV s k) ++ [s] ++ (M.drop t).map (clV s k)) (p.take t ++ [k] ++ p.drop t) := by
  have hlen := h.len
  have hL : ((M.take t).map (clV s k) ++ [s] ++ (M.drop t).map (clV s k)).length = M.length + 1 := by
    simp only [List.length_append, List.length_map, List.length_take, List.length_drop, List.length_singleton]; omega
  have at_p : ∀ i j, i < M.length → j < M.length → clV s k (row M i) (p.getD j 0) = if i = j then 1#8 else 0#8 := fun i j hi hj => by
    show row M i (p.getD j 0) ^^^ mul (row M i k) (s (p.getD j 0)) = _
    rw [hp j hj, mul_zero, BitVec.xor_zero, h.one i j hi hj]
  have at_k : ∀ i, clV s k (row M i) k = 0#8 := fun i => by
    show row M i k ^^^ mul (row M i k) (s k) = 0#8
    rw [hk, mul_one, BitVec.xor_self]
  refine ⟨by rw [hL]; simp only [List.length_append, List.length_take, List.length_drop, List.length_singleton]; omega, ?_, fun i j hi hj => ?_, fun i hi x hx => ?_⟩
  · rw [List.append_assoc, List.pairwise_append]
    refine ⟨h.inc.sublist (List.take_sublist t p), ?_, fun a ha b hb => ?_⟩
    · rw [List.singleton_append, List.pairwise_cons]
      refine ⟨fun b hb => ?_, h.inc.sublist (List.drop_sublist t p)⟩
      obtain ⟨j, hj, rfl⟩ := mem_pget hb
      rw [List.length_drop] at hj
      rw [pget_drop]
      exact h2 _ (by omega) (by omega)
    · obtain ⟨j, hj, rfl⟩ := mem_pget ha
      rw [List.length_take] at hj
      rw [pget_take (by omega)]
      have hjk := h1 j (by omega)
      rw [List.singleton_append] at hb
      rcases List.mem_cons.1 hb with q | q
      · rw [q]; exact hjk
      · obtain ⟨m, hm, rfl⟩ := mem_pget q
        rw [List.length_drop] at hm
        rw [pget_drop]
        have := h2 (t + m) (by omega) (by omega)
        omega
  · rw [hL] at hi hj
    rw [lay_row _ ht, lay_place (by omega) j]
    by_cases i1 : i < t
    · rw [if_pos i1]
      by_cases j1 : j < t
      · rw [if_pos j1, at_p i j (by omega) (by omega)]
      · rw [if_neg j1]
        by_cases j2 : j = t
        · rw [if_pos j2, at_k, if_neg (by omega)]
        · rw [if_neg j2, at_p i (j - 1) (by omega) (by omega), if_neg (by omega), if_neg (by omega)]
    · rw [if_neg i1]
      by_cases i2 : i = t
      · rw [if_pos i2]
        by_cases j1 : j < t
        · rw [if_pos j1, hp j (by omega), if_neg (by omega)]
        · rw [if_neg j1]
          by_cases j2 : j = t
          · rw [if_pos j2, hk, if_pos (by omega)]
          · rw [if_neg j2, hp (j - 1) (by omega), if_neg (by omega)]
      · rw [if_neg i2, if_pos (by omega)]
        by_cases j1 : j < t
        · rw [if_pos j1, at_p (i - 1) j (by omega) (by omega), if_neg (by omega), if_neg (by omega)]
        · rw [if_neg j1]
          by_cases j2 : j = t
          · rw [if_pos j2, at_k, if_neg (by omega)]
          · rw [if_neg j2, at_p (i - 1) (j - 1) (by omega) (by omega)]
            by_cases e : i = j
            · rw [if_pos (by omega), if_pos e]
            · rw [if_neg (by omega), if_neg e]
  · rw [hL] at hi
    rw [lay_place (by omega) i] at hx
    rw [lay_row _ ht]
    by_cases i1 : i < t
    · rw [if_pos i1] at hx ⊢
      show row M i x ^^^ mul (row M i k) (s x) = 0#8
      rw [h.low i (by omega) x hx, hlow x (by have := h1 i i1; omega), mul_zero, BitVec.xor_zero]
    · rw [if_neg i1] at hx ⊢
      by_cases i2 : i = t
      · rw [if_pos i2] at hx ⊢
        exact hlow x hx
      · rw [if_neg i2] at hx
        rw [if_neg i2, if_pos (by omega)]
        show row M (i - 1) x ^^^ mul (row M (i - 1) k) (s x) = 0#8
        rw [h.low (i - 1) (by omega) x hx, h.low (i - 1) (by omega) k (h2 (i - 1) (by omega) (by omega)), zero_mul, BitVec.xor_zero]
theorem lay_span {M : List V} {s : V} {k t : Nat} : SpEq ((M.take t).map (clV s k) ++ [s] ++ (M.drop t).map (clV s k)) (M ++ [s]) := by
  have hs : s ∈ (M.take t).map (clV s k) ++ [s] ++ (M.drop t).map (clV s k) := by simp
  refine SpEq.of_mem (fun v hv => ?_) (fun v hv => ?_)
  · have key : ∀ u, u ∈ M → Sp (M ++ [s]) (clV s k u) := fun u hu => .add (.mem (List.mem_append_left _ hu)) (.smul _ (.mem (List.mem_append_right _ (List.mem_singleton.2 rfl))))
    rcases List.mem_append.1 hv with q | q
    · rcases List.mem_append.1 q with q | q
      · obtain ⟨u, hu, rfl⟩ := List.mem_map.1 q
        exact key u (List.mem_of_mem_take hu)
      · rw [List.mem_singleton.1 q]; exact .mem (List.mem_append_right _ (List.mem_singleton.2 rfl))
    · obtain ⟨u, hu, rfl⟩ := List.mem_map.1 q
      exact key u (List.mem_of_mem_drop hu)
  · rcases List.mem_append.1 hv with q | q
    · have hc : clV s k v ∈ (M.take t).map (clV s k) ++ [s] ++ (M.drop t).map (clV s k) := by
        rw [← List.take_append_drop t M] at q
        rcases List.mem_append.1 q with q | q
        · exact List.mem_append_left _ (List.mem_append_left _ (List.mem_map.2 ⟨v, q, rfl⟩))
        · exact List.mem_append_right _ (List.mem_map.2 ⟨v, q, rfl⟩)
      have e : v = va (clV s k v) (vs (v k) s) := by unfold clV; rw [va_assoc, va_self, va_zero]
      rw [e]
      exact .add (.mem hc) (.smul _ (.mem hs))
    · rw [List.mem_singleton.1 q]; exact .mem hs
def one1 (l : List Int) : List Int := l.map fun x => gm x (gi (l.getD (leadN l).toNat 0))
def insW (M : List (List Int)) (l : List Int) : List (List Int) :=
  if leadN l < 0 then M else
    (M.take (M.findIdx fun x => decide (leadN x > leadN l))).map (fun x => addS x (one1 l) (x.getD (leadN l).toNat 0)) ++ [one1 l] ++ (M.drop (M.findIdx fun x => decide (leadN x > leadN l))).map (fun x => addS x (one1 l) (x.getD (leadN l).toNat 0))
def insL (M : List (List Int)) (r : List Int) : List (List Int) := insW M (leftL M r M.length)
theorem leadN_spec (l : List Int) : (leadN l = -1 ∧ ∀ x ∈ l, x = 0) ∨ ∃ i, ∃ h : i < l.length, leadN l = (i : Int) ∧ l[i] ≠ 0 ∧ ∀ j (q : j < i), l[j] = 0 := by
  by_cases h : ∀ x ∈ l, x = 0
  · exact Or.inl ⟨leadN_neg h, h⟩
  · obtain ⟨x, hx⟩ := Classical.not_forall.1 h
    obtain ⟨hx, hn⟩ := Classical.not_imp.1 hx
    obtain ⟨i, hi, rfl⟩ := List.mem_iff_getElem.1 hx
    obtain ⟨m, hm, ⟨hml, hmn⟩, hlw⟩ := least (fun k => ∃ q : k < l.length, l[k] ≠ 0) i ⟨hi, hn⟩
    have hz : ∀ j (q : j < m), l[j] = 0 := fun j q => Classical.byContradiction fun e => hlw j q ⟨by omega, e⟩
    exact Or.inr ⟨m, hml, leadN_pos hml hmn hz, hmn, hz⟩
theorem vec_at {l : List Int} {i : Nat} (h : i < l.length) : vec l i = toG l[i] := vec_lt h
theorem vecs_append' (a b : List (List Int)) : vecs (a ++ b) = vecs a ++ vecs b := by unfold vecs; rw [List.map_append]
theorem ins_red {n : Nat} {M : List (List Int)} {p : List Nat} (hM : Fits n M) (h : Red (vecs M) p) {r : List Int} (hr : r.length = n ∧ areB r) :
    Fits n (insL M r) ∧ (∃ p', Red (vecs (insL M r)) p') ∧ SpEq (vecs (insL M r)) (vecs (M ++ [r])) := by
  have hv := leftL_vec hM h hr M.length (Nat.le_refl _)
  have hf := leftL_fits hM hr M.length (Nat.le_refl _)
  -- what is left, and the row: one span with the rows
  have hspan : SpEq (vecs M ++ [vec (leftL M r M.length)]) (vecs (M ++ [r])) := by
    rw [vecs_append']
    have hc : vec (leftL M r M.length) = va (vec r) (comb (vecs M) fun j => vec r (p.getD j 0)) := by
      rw [hv]; funext x; unfold va comb; rw [vecs_length]
    show SpEq _ (vecs M ++ [vec r])
    refine SpEq.of_mem (fun v hv_ => ?_) (fun v hv_ => ?_)
    · rcases List.mem_append.1 hv_ with q | q
      · exact .mem (List.mem_append_left _ q)
      · rw [List.mem_singleton.1 q, hc]
        exact .add (.mem (List.mem_append_right _ (List.mem_singleton.2 rfl))) (SpLe.left _ _ _ (comb_sp _ _))
    · rcases List.mem_append.1 hv_ with q | q
      · exact .mem (List.mem_append_left _ q)
      · have e : vec r = va (vec (leftL M r M.length)) (comb (vecs M) fun j => vec r (p.getD j 0)) := by rw [hc, va_assoc, va_self, va_zero]
        rw [List.mem_singleton.1 q, e]
        exact .add (.mem (List.mem_append_right _ (List.mem_singleton.2 rfl))) (SpLe.left _ _ _ (comb_sp _ _))
  have hpz : ∀ j, j < M.length → vec (leftL M r M.length) (p.getD j 0) = 0#8 := fun j hj => by
    rw [hv]
    show vec r (p.getD j 0) ^^^ S M.length (fun i => mul (vec r (p.getD i 0)) (row (vecs M) i (p.getD j 0))) = 0#8
    rw [S_one hj fun i hi hne => by rw [h.one i j (by rw [vecs_length]; exact hi) (by rw [vecs_length]; exact hj), if_neg hne, mul_zero], h.one j j (by rw [vecs_length]; exact hj) (by rw [vecs_length]; exact hj), if_pos rfl, mul_one, BitVec.xor_self]
  unfold insL
  clear hv
  generalize leftL M r M.length = l at hf hspan hpz ⊢
  rcases leadN_spec l with ⟨e, hz⟩ | ⟨k, hk, e, hne, hlow⟩
  · have hl : insW M l = M := by unfold insW; rw [if_pos (by omega)]
    rw [hl]
    refine ⟨hM, ⟨p, h⟩, SpEq.trans ?_ hspan⟩
    have hl0 : vec l = vz := by
      funext j
      by_cases q : j < l.length
      · rw [vec_at q, hz _ (List.getElem_mem q)]; rfl
      · unfold vec; rw [List.getD_eq_getElem?_getD, List.getElem?_eq_none (by omega)]; rfl
    exact (SpLe.left _ _).eq (SpLe.append (fun _ q => q) (SpLe.of_mem fun v q => by rw [List.mem_singleton.1 q, hl0]; exact .zero))
  · have hk1 : (leadN l).toNat = k := by rw [e]; rfl
    have hgd : l.getD k 0 = l[k] := by rw [List.getD_eq_getElem?_getD, List.getElem?_eq_getElem hk, Option.getD_some]
    have hB := hf.2 _ (List.getElem_mem hk)
    have hg : toG l[k] ≠ 0#8 := fun q => hne (byte_eq (b := 0) hB ⟨by decide, by decide⟩ q)
    have hs : vec (one1 l) = vs (inv (toG l[k])) (vec l) := by unfold one1; rw [vec_scale, toG_gi, hk1, hgd]
    have hsf : (one1 l).length = n ∧ areB (one1 l) := ⟨by unfold one1; rw [List.length_map]; exact hf.1, by unfold one1; exact areB_map _ (fun x => gm_B x _) _⟩
    have hsk : vec (one1 l) k = 1#8 := by
      rw [hs]; show mul (inv (toG l[k])) (vec l k) = 1#8
      rw [vec_at hk, inv_mul _ hg]
    have hsl : ∀ x, x < k → vec (one1 l) x = 0#8 := fun x hx => by
      rw [hs]; show mul _ (vec l x) = 0#8
      rw [vec_at (by omega), hlow x hx]; exact mul_zero _
    have hsp : ∀ j, j < M.length → vec (one1 l) (p.getD j 0) = 0#8 := fun j hj => by
      rw [hs]; show mul _ (vec l (p.getD j 0)) = 0#8
      rw [hpz j hj, mul_zero]
    have hlen : M.length = p.length := by have := h.len; rwa [vecs_length] at this
    have hlead : ∀ j (q : j < M.length), leadN M[j] = ((p.getD j 0 : Nat) : Int) := fun j q => by
      have := (red_lead hM h q).2.1
      rwa [List.getD_eq_getElem?_getD, List.getElem?_eq_getElem q, Option.getD_some] at this
    obtain ⟨t, ht⟩ : ∃ t, t = M.findIdx fun x => decide (leadN x > leadN l) := ⟨_, rfl⟩
    have htl : t ≤ M.length := by rw [ht]; exact List.findIdx_le_length
    have hne_k : ∀ j, j < M.length → p.getD j 0 ≠ k := fun j hj q => by
      have := hsp j hj
      rw [q, hsk] at this
      exact absurd this (by decide)
    have h1 : ∀ j, j < t → p.getD j 0 < k := fun j hj => by
      have := List.not_of_lt_findIdx (show j < M.findIdx (fun x => decide (leadN x > leadN l)) by omega)
      have h2 := hlead j (by omega)
      have h3 := hne_k j (by omega)
      have h4 : ¬ leadN M[j] > leadN l := by simpa using this
      rw [h2, e] at h4
      omega
    have h2 : ∀ j, t ≤ j → j < M.length → k < p.getD j 0 := fun j hj hjl => by
      have ht2 : t < M.length := by omega
      have q := List.findIdx_getElem (xs := M) (p := fun x => decide (leadN x > leadN l)) (w := by rw [← ht]; exact ht2)
      have q2 := hlead t ht2
      simp only [← ht, decide_eq_true_eq] at q
      rw [q2, e] at q
      rcases Nat.lt_or_ge t j with c | c
      · have := pget h.inc c (by omega); omega
      · have : t = j := by omega
        subst this; omega
    have hadd : ∀ x, x ∈ M → vec (addS x (one1 l) (x.getD k 0)) = clV (vec (one1 l)) k (vec x) := fun x hx => by
      unfold addS clV
      rw [vec_addScaled (by rw [(hM x hx).1, hsf.1])]; rfl
    have hI : insW M l = (M.take t).map (fun x => addS x (one1 l) (x.getD k 0)) ++ [one1 l] ++ (M.drop t).map (fun x => addS x (one1 l) (x.getD k 0)) := by
      unfold insW; rw [if_neg (by omega), hk1, ← ht]
    have hV : vecs (insW M l) = ((vecs M).take t).map (clV (vec (one1 l)) k) ++ [vec (one1 l)] ++ ((vecs M).drop t).map (clV (vec (one1 l)) k) := by
      rw [hI]
      unfold vecs
      rw [List.map_append, List.map_append, List.map_map, List.map_map, ← List.map_take, ← List.map_drop, List.map_map, List.map_map]
      congr 1
      · congr 1
        exact List.map_congr_left fun x hx => hadd x (List.mem_of_mem_take hx)
      · exact List.map_congr_left fun x hx => hadd x (List.mem_of_mem_drop hx)
    refine ⟨?_, ⟨_, by rw [hV]; exact red_lay h hsk hsl (fun j hj => hsp j (by rw [vecs_length] at hj; exact hj)) (by rw [vecs_length]; exact htl) h1 (fun j a b => h2 j a (by rw [vecs_length] at b; exact b))⟩, ?_⟩
    · rw [hI]
      intro x hx
      have ok : ∀ y, y ∈ M → (addS y (one1 l) (y.getD k 0)).length = n ∧ areB (addS y (one1 l) (y.getD k 0)) := fun y hy => addS_fits (hM y hy).1 hsf.1 _
      rcases List.mem_append.1 hx with q | q
      · rcases List.mem_append.1 q with q | q
        · obtain ⟨y, hy, rfl⟩ := List.mem_map.1 q
          exact ok y (List.mem_of_mem_take hy)
        · rw [List.mem_singleton.1 q]; exact hsf
      · obtain ⟨y, hy, rfl⟩ := List.mem_map.1 q
        exact ok y (List.mem_of_mem_drop hy)
    · rw [hV]
      refine (lay_span.trans ?_).trans hspan
      have e2 : vec l = vs (toG l[k]) (vec (one1 l)) := by rw [hs, vs_vs, mul_inv _ hg, vs_one]
      refine SpEq.of_mem (fun v q => ?_) (fun v q => ?_)
      · rcases List.mem_append.1 q with q | q
        · exact .mem (List.mem_append_left _ q)
        · rw [List.mem_singleton.1 q, hs]; exact .smul _ (.mem (List.mem_append_right _ (List.mem_singleton.2 rfl)))
      · rcases List.mem_append.1 q with q | q
        · exact .mem (List.mem_append_left _ q)
        · rw [List.mem_singleton.1 q, e2]; exact .smul _ (.mem (List.mem_append_right _ (List.mem_singleton.2 rfl)))
theorem ins_eq {n : Nat} {L : List (List Int)} (hL : Fits n L) {r : List Int} (hr : r.length = n ∧ areB r) : insL (redRows L n) r = redRows (L ++ [r]) n := by
  obtain ⟨p, h1, h2, h3, _⟩ := redRows_spec hL
  obtain ⟨k1, ⟨p', k2⟩, k3⟩ := ins_red h3 h1 hr
  have hLr : Fits n (L ++ [r]) := fun x hx => (List.mem_append.1 hx).elim (hL x) (fun q => by rw [List.mem_singleton.1 q]; exact hr)
  obtain ⟨q, m1, m2, m3, _⟩ := redRows_spec hLr
  refine vecs_inj k1 m3 (k2.unique m1 ((k3.trans ?_).trans m2))
  rw [vecs_append', vecs_append']
  exact SpEq.append h2.symm (SpEq.refl _)
end Go.Proofs.Ythlgmmgdaciinaa.Plain
end
