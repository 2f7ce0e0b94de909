/- The contracts of vector.Add, AddScaled, Scale, Dot and Lead: what each call answers, over lists of bytes. -/
import Derived.Test.YthlgmmgdaciinaaHEach
import Derived.Test.YthlgmmgdaciinaaHField
set_option linter.unusedVariables false
set_option linter.unusedSimpArgs false
namespace Go.Proofs.Ythlgmmgdaciinaa.Hand
open Go.RowKit Go.Proofs.YthlgmmgdaciinaaW.PrintWords Go.Proofs.YthlgmmgdaciinaaW.PrintLast Go.Proofs.YthlgmmgdaciinaaW.PrintMore

def xr (a b : Int) : Int := Go.bits .xor .u8 a b
def vN : Nat := 281474976710656
def areB (l : List Int) : Prop := ∀ x ∈ l, isB x
instance (l : List Int) : Decidable (areB l) := inferInstanceAs (Decidable (∀ x ∈ l, isB x))
theorem rd_mem {l : List Int} {i : Int} (h0 : 0 ≤ i) (h1 : i < (l.length : Int)) : rd l i ∈ l := by
  unfold rd
  rw [List.getD_eq_getElem?_getD, List.getElem?_eq_getElem (show i.toNat < l.length by omega)]
  exact List.getElem_mem _
theorem rd_nat (l : List Int) (i : Nat) : rd l (i : Int) = l.getD i 0 := by unfold rd; rw [Int.toNat_natCast]
/-- what a loop over all places leaves: from i on, what f makes -/
def filled (F : Int → Int → Int) (l0 l1 x : List Int) (i : Nat) : List Int := (List.range x.length).map fun j => if j < i then x.getD j 0 else F (l0.getD j 0) (l1.getD j 0)
theorem filled_end (F : Int → Int → Int) (l0 l1 x : List Int) : filled F l0 l1 x x.length = x := by
  refine List.ext_getElem (by simp [filled]) fun j h1 h2 => ?_
  simp [filled, h2]
theorem filled_next (F : Int → Int → Int) (l0 l1 x : List Int) (i : Nat) (h : i < x.length) (v : Int) (hv : F (l0.getD i 0) (l1.getD i 0) = v) : filled F l0 l1 (x.set i v) (i + 1) = filled F l0 l1 x i := by
  unfold filled
  rw [List.length_set]
  refine List.map_congr_left fun j hj => ?_
  have hj := List.mem_range.1 hj
  by_cases e : j = i
  · subst e
    rw [if_pos (by omega), if_neg (by omega), hv, List.getD_eq_getElem?_getD, List.getElem?_set_self h]; rfl
  · rw [List.getD_eq_getElem?_getD, List.getElem?_set_ne (fun h => e h.symm), ← List.getD_eq_getElem?_getD]
    by_cases l : j < i
    · rw [if_pos (by omega), if_pos l]
    · rw [if_neg (by omega), if_neg l]
theorem filled_start (F : Int → Int → Int) (l0 l1 x : List Int) (h0 : x.length = l0.length) (h1 : l0.length = l1.length) : filled F l0 l1 x 0 = List.zipWith F l0 l1 := by
  refine List.ext_getElem (by simp [filled]; omega) fun j a b => ?_
  simp only [filled, List.length_map, List.length_range] at a
  have hj0 : j < l0.length := by omega
  have hj1 : j < l1.length := by omega
  simp [filled, hj0, hj1]
theorem each_loop (ff : Int → Int → Option Int) (F : Int → Int → Int) (l0 l1 : List Int) (hl : l0.length = l1.length) (hm : l0.length ≤ 9223372036854775807) (hf : ∀ i : Nat, i < l0.length → ff (rd l0 i) (rd l1 i) = some (F (rd l0 i) (rd l1 i))) (d : Nat) :
    ∀ (i k : Nat) (x : List Int), x.length = l0.length → i + d = l0.length → d < k → vector_each.l0 ff k l0 l1 x (l0.length : Int) i = some (filled F l0 l1 x i, 0) := by
  induction d with
  | zero =>
    intro i k x hx hi hk
    obtain ⟨k, rfl⟩ : ∃ m, k = m + 1 := ⟨k - 1, by omega⟩
    simp only [vector_each.l0]
    rw [if_neg (by omega)]
    have : i = x.length := by omega
    rw [this, filled_end]
  | succ d ih =>
    intro i k x hx hi hk
    obtain ⟨k, rfl⟩ : ∃ m, k = m + 1 := ⟨k - 1, by omega⟩
    simp only [vector_each.l0]
    rw [if_pos (by omega), if_pos (by omega), if_pos (by omega), if_pos (by omega), hf i (by omega), Option.bind_some, if_pos (by omega), show wrap64 ((i : Int) + 1) = ((i + 1 : Nat) : Int) from by unfold wrap64; omega, Int.toNat_natCast,
      ih (i + 1) k _ (by rw [List.length_set]; exact hx) (by omega) (by omega), filled_next F l0 l1 x i (by omega) _ (by rw [rd_nat, rd_nat])]
theorem each_f (ff : Int → Int → Option Int) (F : Int → Int → Int) (l0 l1 : List Int) (hl : l0.length = l1.length) (hm : l0.length ≤ vN) (hf : ∀ i : Nat, i < l0.length → ff (rd l0 i) (rd l1 i) = some (F (rd l0 i) (rd l1 i))) :
    vector_each.f ff (l0.length + 1) l0 l1 = some (List.zipWith F l0 l1, 0) := by
  unfold vN at hm
  unfold vector_each.f
  rw [if_pos (by omega), if_pos (by omega), if_pos (by omega), Option.bind_some, List.length_replicate]
  have h := each_loop ff F l0 l1 hl (by omega) hf l0.length 0 (l0.length + 1) (List.replicate l0.length 0) (by simp) (by omega) (by omega)
  rw [filled_start F l0 l1 _ (by simp) hl] at h
  simpa using h
theorem each_dim (ff : Int → Int → Option Int) (l0 l1 : List Int) (hl : l0.length ≠ l1.length) : vector_each.f ff 1 l0 l1 = some ([], 21) := by
  unfold vector_each.f
  rw [if_neg (by omega)]
-- the functions that it is handed
theorem ok_add : FnOk Try.prog 43 := ⟨⟨_, Try.func43, by rfl, rfl⟩⟩
theorem ok_mul : FnOk Try.prog 48 := ⟨⟨_, Try.func48, by rfl, rfl⟩⟩
theorem ok_scaled : FnOk Try.prog 47 := ⟨⟨_, Try.func47, by rfl, rfl⟩⟩
theorem ok_scale : FnOk Try.prog 49 := ⟨⟨_, Try.func49, by rfl, rfl⟩⟩
set_option maxRecDepth 100000 in
theorem add_fn (a b : Int) (w : World) : Calls Try.prog 43 #[.int .u8 a, .int .u8 b] w fun e w' => e = .returned (.int .u8 (xr a b)) ∧ Below w.heap.size w w' := by
  go_enter Try.func43, Try.ntmps43
  go_wp2
  go_ret
  exact ⟨rfl, Below.refl _ _⟩
set_option maxRecDepth 100000 in
theorem scaled_fn (a b c r : Int) (B : Nat) (w : World) (hc : w.cell? ⟨B, 0, none⟩ = some (.int .u8 c)) (hr : field_Mul.f b c = some r) :
    Calls Try.prog 47 #[.int .u8 a, .int .u8 b, .pointer (some ⟨B, 0, none⟩)] w fun e w' => e = .returned (.int .u8 (xr a r)) ∧ Below w.heap.size w w' := by
  have HR := Aside0.mk hr
  clear hr
  go_enter Try.func47, Try.ntmps47
  go_wp2_with (first
    | (go_at_call 48; refine (field_Mul.calls b c r _ HR.out).mono ?_; rintro e w1 ⟨rfl, hb1⟩)
    | (go_at_call 43; refine (add_fn _ _ _).mono ?_; rintro e w2 ⟨rfl, hb2⟩))
  go_ret
  exact ⟨rfl, below_next hb1 hb2⟩
set_option maxRecDepth 100000 in
theorem scale_fn (a b c r : Int) (B : Nat) (w : World) (hc : w.cell? ⟨B, 0, none⟩ = some (.int .u8 c)) (hr : field_Mul.f a c = some r) :
    Calls Try.prog 49 #[.int .u8 a, .int .u8 b, .pointer (some ⟨B, 0, none⟩)] w fun e w' => e = .returned (.int .u8 r) ∧ Below w.heap.size w w' := by
  have HR := Aside0.mk hr
  clear hr
  go_enter Try.func49, Try.ntmps49
  go_wp2_with (first
    | (go_at_call 48; refine (field_Mul.calls a c r _ HR.out).mono ?_; rintro e w1 ⟨rfl, hb1⟩))
  go_ret
  exact ⟨rfl, hb1⟩
-- the calls
def vector_Add.f (l0 l1 : List Int) : Option (List Int × Int) := if l0.length = l1.length then (if l0.length ≤ vN then some (List.zipWith xr l0 l1, 0) else none) else some ([], 21)
set_option maxRecDepth 100000 in
theorem vector_Add.calls (A0 : Option Addr) (c0 : Nat) (l0 : List Int) (A1 : Option Addr) (c1 : Nat) (l1 : List Int) (r1 : List Int) (r2 : Int) (w : World) (hr0 : Kd.C (Kd.int .u8) w A0 l0.length l0) (hc0 : l0.length ≤ c0) (hr1 : Kd.C (Kd.int .u8) w A1 l1.length l1) (hc1 : l1.length ≤ c1) (h : vector_Add.f l0 l1 = some (r1, r2)) :
    Calls Try.prog 18 #[.slice A0 l0.length c0, .slice A1 l1.length c1] w fun e w' => ∃ v0_ : Value, e = .returned (.tuple #[v0_, .int .i64 r2]) ∧ Kd.R (Kd.int .u8) 5 w' w.heap.size (fun _ => True) v0_ r1 ∧ Below w.heap.size w w' := by
  have hf : ∃ k, vector_each.f (fun x y => some (xr x y)) k l0 l1 = some (r1, r2) := by
    unfold vector_Add.f at h
    by_cases e : l0.length = l1.length
    · rw [if_pos e] at h
      by_cases n : l0.length ≤ vN
      · rw [if_pos n] at h
        rw [← h]; exact ⟨_, each_f _ xr l0 l1 e n fun i hi => rfl⟩
      · rw [if_neg n] at h; cases h
    · rw [if_neg e] at h; rw [← h]; exact ⟨_, each_dim _ l0 l1 e⟩
  obtain ⟨k, hk⟩ := hf
  have HE := Aside0.mk (fun (w1 : World) (a : Kd.C (Kd.int .u8) w1 A0 l0.length l0) (b : Kd.C (Kd.int .u8) w1 A1 l1.length l1) => vector_each.calls (fun x y => some (xr x y)) k A0 c0 l0 A1 c1 l1 43 #[] ok_add r1 r2 w1 (fun x y r W hr _ => by obtain rfl := Option.some.inj hr; simpa using add_fn x y W) a hc0 b hc1 hk)
  have HR0 := Aside0.mk hr0
  have HR1 := Aside0.mk hr1
  clear hk h hr0 hr1
  go_enter Try.func18, Try.ntmps18
  go_wp2_with (go_at_call 42; refine (HE.out _ HR0.out HR1.out).mono ?_; rintro e w1 ⟨v0, rfl, hR, hb1⟩)
  go_ret2
  exact ⟨_, rfl, hR, hb1⟩
def vector_AddScaled.f (l0 l1 : List Int) (a2 : Int) : Option (List Int × Int) := if l0.length = l1.length then (if l0.length ≤ vN ∧ areB l1 ∧ isB a2 then some (List.zipWith (fun x y => xr x (gm y a2)) l0 l1, 0) else none) else some ([], 21)
set_option maxRecDepth 100000 in
theorem vector_AddScaled.calls (A0 : Option Addr) (c0 : Nat) (l0 : List Int) (A1 : Option Addr) (c1 : Nat) (l1 : List Int) (a2 : Int) (r1 : List Int) (r2 : Int) (w : World) (hr0 : Kd.C (Kd.int .u8) w A0 l0.length l0) (hc0 : l0.length ≤ c0) (hr1 : Kd.C (Kd.int .u8) w A1 l1.length l1) (hc1 : l1.length ≤ c1) (h : vector_AddScaled.f l0 l1 a2 = some (r1, r2)) :
    Calls Try.prog 21 #[.slice A0 l0.length c0, .slice A1 l1.length c1, .int .u8 a2] w fun e w' => ∃ v0_ : Value, e = .returned (.tuple #[v0_, .int .i64 r2]) ∧ Kd.R (Kd.int .u8) 5 w' w.heap.size (fun _ => True) v0_ r1 ∧ Below w.heap.size w w' := by
  have hf : ∃ k, vector_each.f (fun x y => (field_Mul.f y a2).map (xr x)) k l0 l1 = some (r1, r2) := by
    unfold vector_AddScaled.f at h
    by_cases e : l0.length = l1.length
    · rw [if_pos e] at h
      by_cases n : l0.length ≤ vN ∧ areB l1 ∧ isB a2
      · rw [if_pos n] at h
        rw [← h]
        exact ⟨_, each_f _ (fun x y => xr x (gm y a2)) l0 l1 e n.1 fun i hi => by
          show (field_Mul.f _ a2).map _ = _
          rw [show field_Mul.f (rd l1 i) a2 = some (gm (rd l1 i) a2) from if_pos ⟨n.2.1 _ (rd_mem (by omega) (by omega)), n.2.2⟩]; rfl⟩
      · rw [if_neg n] at h; cases h
    · rw [if_neg e] at h; rw [← h]; exact ⟨_, each_dim _ l0 l1 e⟩
  obtain ⟨k, hk⟩ := hf
  have HE := Aside0.mk (fun (w1 : World) (B : Nat) (hB : B < w1.heap.size) (hcell : w1.cell? ⟨B, 0, none⟩ = some (.int .u8 a2)) (a : Kd.C (Kd.int .u8) w1 A0 l0.length l0) (b : Kd.C (Kd.int .u8) w1 A1 l1.length l1) => vector_each.calls (fun x y => (field_Mul.f y a2).map (xr x)) k A0 c0 l0 A1 c1 l1 47 #[.pointer (some ⟨B, 0, none⟩)] ok_scaled r1 r2 w1 (fun x y r W hr hbW => by
    obtain ⟨q, hq, rfl⟩ := Option.map_eq_some_iff.1 hr
    have := scaled_fn x y a2 q B W ((hbW.cell (p := ⟨B, 0, none⟩) hB).trans hcell) hq
    simpa using this) a hc0 b hc1 hk)
  have HR0 := Aside0.mk (Kd.C_alloc hr0 (.cells #[.int .u8 a2] 5))
  have HR1 := Aside0.mk (Kd.C_alloc hr1 (.cells #[.int .u8 a2] 5))
  clear hk h hr0 hr1
  go_enter Try.func21, Try.ntmps21
  go_wp2_with (go_at_call 42; refine (HE.out _ w.heap.size (by simp) (by simp) HR0.out HR1.out).mono ?_; rintro e w1 ⟨v0, rfl, hR, hb1⟩)
  go_ret2
  exact ⟨_, rfl, Kd.R_lower hR (by simp), box_lower rfl hb1⟩
def vector_Scale.f (l0 : List Int) (a1 : Int) : Option (List Int) := if l0.length ≤ vN ∧ areB l0 ∧ isB a1 then some (l0.map fun x => gm x a1) else none
theorem zip_self (F : Int → Int) : ∀ l : List Int, List.zipWith (fun x _ => F x) l l = l.map F
  | [] => rfl
  | a :: l => by simp [zip_self F l]
set_option maxRecDepth 100000 in
theorem vector_Scale.calls (A0 : Option Addr) (c0 : Nat) (l0 : List Int) (a1 : Int) (r : List Int) (w : World) (hr0 : Kd.C (Kd.int .u8) w A0 l0.length l0) (hc0 : l0.length ≤ c0) (h : vector_Scale.f l0 a1 = some r) :
    Calls Try.prog 23 #[.slice A0 l0.length c0, .int .u8 a1] w fun e w' => ∃ v0_ : Value, e = .returned (v0_) ∧ Kd.R (Kd.int .u8) 5 w' w.heap.size (fun _ => True) v0_ r ∧ Below w.heap.size w w' := by
  have hf : ∃ k, vector_each.f (fun x y => field_Mul.f x a1) k l0 l0 = some (r, 0) := by
    unfold vector_Scale.f at h
    by_cases n : l0.length ≤ vN ∧ areB l0 ∧ isB a1
    · rw [if_pos n] at h
      obtain rfl := Option.some.inj h
      rw [← zip_self]
      exact ⟨_, each_f _ (fun x _ => gm x a1) l0 l0 rfl n.1 fun i hi => if_pos ⟨n.2.1 _ (rd_mem (by omega) (by omega)), n.2.2⟩⟩
    · rw [if_neg n] at h; cases h
  obtain ⟨k, hk⟩ := hf
  have HE := Aside0.mk (fun (w1 : World) (B : Nat) (hB : B < w1.heap.size) (hcell : w1.cell? ⟨B, 0, none⟩ = some (.int .u8 a1)) (a : Kd.C (Kd.int .u8) w1 A0 l0.length l0) => vector_each.calls (fun x y => field_Mul.f x a1) k A0 c0 l0 A0 c0 l0 49 #[.pointer (some ⟨B, 0, none⟩)] ok_scale r 0 w1 (fun x y q W hq hbW => by
    have := scale_fn x y a1 q B W ((hbW.cell (p := ⟨B, 0, none⟩) hB).trans hcell) hq
    simpa using this) a hc0 a hc0 hk)
  have HR0 := Aside0.mk (Kd.C_alloc hr0 (.cells #[.int .u8 a1] 5))
  clear hk h hr0
  go_enter Try.func23, Try.ntmps23
  go_wp2_with (go_at_call 42; refine (HE.out _ w.heap.size (by simp) (by simp) HR0.out).mono ?_; rintro e w1 ⟨v0, rfl, hR, hb1⟩)
  go_ret
  exact ⟨_, rfl, Kd.R_lower hR (by simp), box_lower rfl hb1⟩
end Go.Proofs.Ythlgmmgdaciinaa.Hand
