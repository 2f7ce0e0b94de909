/- QTB, part 13: HBytes HSize PK0. -/
import Derived.Test.YtpfaaljmefgpbaaQTB1
import Derived.Test.YtpfaaljmefgpbaaQTB2
import Derived.Test.YtpfaaljmefgpbaaQTB3
import Derived.Test.YtpfaaljmefgpbaaQTB4
import Derived.Test.YtpfaaljmefgpbaaQTB5
import Derived.Test.YtpfaaljmefgpbaaQTB6
import Derived.Test.YtpfaaljmefgpbaaQTB8
import Derived.Test.YtpfaaljmefgpbaaQTB10
import Derived.Test.YtpfaaljmefgpbaaQTB12
import Derived.Test.YtpfaaljmefgpbaaProg
import Derived.Below
import Derived.Deep.Draws
import Derived.Deep.AppendLies
import Derived.Maps.AppendAt
import Derived.OwnWalk
import Derived.Laws.BytesArg
import Derived.Laws.MakeOwn
import Derived.Laws.OwnMore
import Derived.Deep.OwnRows
import Derived.Tactics
import Derived.Lib.ConvBytes
import Derived.Laws.Slices
import Derived.WalkKit
import Derived.KernelRfl
import Derived.RowKit3
import Derived.Deep.LoopGhost
import Derived.Deep.QuietTactic
import Derived.BigQuiet
import Derived.WideLaws
import Derived.Deep.DeepCutAuto
import Derived.Deep.CutBlock
import Derived.Deep.RegionHeld3
import Derived.Laws.Rows
import Derived.Lib.AppendStr
import Derived.ArgAppend
import Derived.Laws.IdiomCopy
import Derived.OrdersHeld
import Derived.Laws.BitsLemmas
import Derived.RowKit

section
set_option linter.unusedVariables false
set_option linter.unusedSimpArgs false
namespace Go.Proofs.Ytpfaaljmefgpbaa.Hand
open Go.RowKit Go.Proofs.Ytpfaaljmefgpbaa.GF Go.Proofs.Ytpfaaljmefgpbaa.LA
def vec (l : List Int) : V := fun j => toG (l.getD j 0)
theorem xr_ofG (a b : Int) : xr a b = ofG (toG a ^^^ toG b) := bits_xor a b
theorem xr_B (a b : Int) : isB (xr a b) := by rw [xr_ofG]; exact ofG_range _
theorem gm_B (a b : Int) : isB (gm a b) := ofG_range _
theorem toG_xr (a b : Int) : toG (xr a b) = toG a ^^^ toG b := by rw [xr_ofG, toG_ofG]
theorem toGgm (a b : Int) : toG (gm a b) = mul (toG a) (toG b) := by unfold gm; rw [toG_ofG]
theorem vec_lt {l : List Int} {j : Nat} (h : j < l.length) : vec l j = toG l[j] := by
  unfold vec; rw [List.getD_eq_getElem?_getD, List.getElem?_eq_getElem h, Option.getD_some]
theorem vec_ge {l : List Int} {j : Nat} (h : l.length ≤ j) : vec l j = 0#8 := by
  unfold vec; rw [List.getD_eq_getElem?_getD, List.getElem?_eq_none h]; rfl
theorem vec_supp (l : List Int) : Supp l.length (vec l) := fun j hj => vec_ge hj
theorem vec_ext {a b : List Int} (hl : a.length = b.length) (ha : areB a) (hb : areB b) (h : ∀ j, j < a.length → vec a j = vec b j) : a = b := by
  refine List.ext_getElem hl fun j h1 h2 => ?_
  have := h j h1
  rw [vec_lt h1, vec_lt h2] at this
  have pa := ha _ (List.getElem_mem h1)
  have pb := hb _ (List.getElem_mem h2)
  exact toG_inj pa.1 pa.2 pb.1 pb.2 this
theorem areB_zeros (n : Nat) : areB (List.replicate n 0) := fun x h => by rw [List.eq_of_mem_replicate h]; exact ⟨by decide, by decide⟩
theorem areB_zip (F : Int → Int → Int) (hF : ∀ x y, isB (F x y)) (a b : List Int) : areB (List.zipWith F a b) := fun x h => by
  obtain ⟨i, hi, rfl⟩ := List.mem_iff_getElem.1 h
  rw [List.getElem_zipWith]; exact hF _ _
theorem areB_map (F : Int → Int) (hF : ∀ x, isB (F x)) (a : List Int) : areB (a.map F) := fun x h => by
  obtain ⟨y, _, rfl⟩ := List.mem_map.1 h; exact hF y
theorem areB_set {a : List Int} (ha : areB a) (i : Nat) {v : Int} (hv : isB v) : areB (a.set i v) := fun x h => (List.mem_or_eq_of_mem_set h).elim (ha x) (fun e => e ▸ hv)
theorem areB_of_wf {l : List Int} (h : ∀ x ∈ l, (Lit.int .u8 x).wf = true) : areB l := fun x hx => by
  have q := h x hx
  simp [Lit.wf, IntKind.min, IntKind.max, IntKind.bits, IntKind.signed] at q
  exact ⟨q.1, by omega⟩
theorem vec_zip (F : Int → Int → Int) (F' : G → G → G) (hF : ∀ x y, toG (F x y) = F' (toG x) (toG y)) {a b : List Int} (hl : a.length = b.length) (h0 : F' 0#8 0#8 = 0#8) : vec (List.zipWith F a b) = fun j => F' (vec a j) (vec b j) := funext fun j => by
  by_cases h : j < a.length
  · rw [vec_lt (by rw [List.length_zipWith]; omega), vec_lt h, vec_lt (by omega), List.getElem_zipWith, hF]
  · rw [vec_ge (by rw [List.length_zipWith]; omega), vec_ge (by omega), vec_ge (by omega), h0]
theorem vec_addScaled {a b : List Int} (hl : a.length = b.length) (c : Int) : vec (List.zipWith (fun x y => xr x (gm y c)) a b) = va (vec a) (vs (toG c) (vec b)) :=
  vec_zip _ (fun x y => x ^^^ mul (toG c) y) (fun x y => by rw [toG_xr, toGgm, mul_comm]) hl (by rw [GF.mul_zero]; decide)
theorem vec_scale (a : List Int) (c : Int) : vec (a.map fun x => gm x c) = vs (toG c) (vec a) := funext fun j => by
  unfold vs
  by_cases h : j < a.length
  · rw [vec_lt (by simpa using h), vec_lt h, List.getElem_map, toGgm, mul_comm]
  · rw [vec_ge (by simpa using h), vec_ge (by omega), GF.mul_zero]
theorem vec_zeros (n : Nat) : vec (List.replicate n 0) = vz := funext fun j => by
  by_cases h : j < n
  · rw [vec_lt (by simpa using h), List.getElem_replicate]; rfl
  · rw [vec_ge (by simpa using h)]; rfl
theorem vec_unit {n i : Nat} (h : i < n) : vec ((List.replicate n 0).set i 1) = unit i := funext fun j => by
  unfold unit
  by_cases e : j = i
  · subst e; rw [if_pos rfl, vec_lt (by simpa using h), List.getElem_set_self]; rfl
  · rw [if_neg e]
    by_cases hj : j < n
    · rw [vec_lt (by simpa using hj), List.getElem_set_ne (fun q => e q.symm), List.getElem_replicate]; rfl
    · rw [vec_ge (by simpa using hj)]
theorem byte_eq {a b : Int} (ha : isB a) (hb : isB b) (h : toG a = toG b) : a = b := toG_inj ha.1 ha.2 hb.1 hb.2 h
theorem leadN_neg {l : List Int} (h : ∀ x ∈ l, x = 0) : leadN l = -1 := by
  unfold leadN
  rw [if_neg]
  intro q
  have h2 := List.findIdx_getElem (w := q)
  rw [h _ (List.getElem_mem q)] at h2
  cases h2
theorem leadN_pos {l : List Int} {i : Nat} (hi : i < l.length) (h1 : l[i] ≠ 0) (h2 : ∀ j (h : j < i), l[j] = 0) : leadN l = i := by
  have e : l.findIdx (fun x => x != 0) = i := (List.findIdx_eq hi).2 ⟨by simpa using h1, fun j hj => by simpa using h2 j hj⟩
  unfold leadN
  rw [e, if_pos hi]
end Go.Proofs.Ytpfaaljmefgpbaa.Hand
end

section
set_option linter.unusedVariables false
set_option linter.unusedSimpArgs false
namespace Go.Proofs.Ytpfaaljmefgpbaa.Hand
open Go.RowKit Go.Proofs.YtpfaaljmefgpbaaW.PrintWords Go.Proofs.YtpfaaljmefgpbaaW.PrintLast Go.Proofs.YtpfaaljmefgpbaaW.PrintMore
attribute [local go_sem] max2_int min2_int max_two min_two max_three min_three max_four min_four
def rdR (xs : List (List Int)) (i : Int) : (List Int) := xs.getD i.toNat ([] : List Int)
theorem at_R {w : World} {A : Option Addr} {n : Nat} {xs : List (List Int)} (h : Kd.C (Kd.slice 5 (Kd.int .u8)) w A n xs) (i : Int) (h0 : 0 ≤ i) (h1 : i < n) : ∃ ad A0 c0, A = some ad ∧ w.cell? (ad.add i.toNat) = some (.slice A0 (rdR xs i).length c0) ∧ (rdR xs i).length ≤ c0 ∧ (Kd.int .u8).C w A0 (rdR xs i).length (rdR xs i) := by
  obtain ⟨ad, c, e, _, hK, hc0⟩ := Kd.C_get h ([] : List Int) i h0 h1
  have hc : ∀ j u, c[j]? = some u → w.cell? (ad.add (i.toNat * 1 + j)) = some u := hc0
  obtain ⟨A0, c0, rfl, l0, g0⟩ := hK
  exact ⟨ad, A0, c0, e, by have hq := hc 0 _ rfl; rwa [Nat.mul_one, Nat.add_zero] at hq, l0, g0⟩
def slices_IndexRows.l0 (ff : List Int → Option Bool) : Nat → List (List Int) → Int → Int → Option (Int)
  | 0, _, _, _ => none
  | k + 1, x0, x7, x8 => if x8 < x7 then (if 0 ≤ x8 then (if x8 < (x0.length : Int) then ((ff (rdR x0 x8)).bind fun t102 => (if t102 = true then (some x8) else (slices_IndexRows.l0 ff k x0 x7 (wrap64 (x8 + 1))))) else (none)) else (none)) else (some (-1))
def slices_IndexRows.f (ff : List Int → Option Bool) (k : Nat) (l0 : List (List Int))  : Option (Int) := slices_IndexRows.l0 ff k l0 (l0.length : Int) 0
set_option maxHeartbeats 8000000 in
set_option maxRecDepth 100000 in
theorem slices_IndexRows.calls (ff : List Int → Option Bool) (k : Nat) (A0 : Option Addr) (c0 : Nat) (l0 : List (List Int)) (g : FuncId) (lb : Array Value) (hg : FnOk Try.prog g) (r : Int) (w : World) (hF : ∀ (A : Option Addr) (c : Nat) (x : List Int) (r : Bool) (W : World), Kd.C (Kd.int .u8) W A x.length x → x.length ≤ c → ff x = some r → Below w.heap.size w W → Calls Try.prog g (#[.slice A x.length c] ++ lb) W fun e w2 => e = .returned (.bool r) ∧ Below W.heap.size W w2) (hr0 : Kd.C (Kd.slice 5 (Kd.int .u8)) w A0 l0.length l0) (hc0 : l0.length ≤ c0) (h : slices_IndexRows.f ff k l0 = some r) :
    Calls Try.prog 60 #[.slice A0 l0.length c0, .func (.func g) #[] lb] w fun e w' => e = .returned (.int .i64 r) ∧ Below w.heap.size w w' := by
  have HR0 := Aside0.mk hr0
  have HC0 := Aside0.mk hc0
  clear hr0 hc0
  have HF := Aside0.mk hF
  clear hF
  have HG := Aside0.mk hg
  clear hg
  have HB := Aside0.mk (Below.refl w.heap.size w)
  have H : (slices_IndexRows.l0 ff k l0 (l0.length : Int) 0) = some r := h
  clear h
  have H' := Aside0.mk H
  clear H
  go_enter Try.func60, Try.ntmps60
  go_wp2
  go_loopg [8] k (fun kq v8 w' => ∃ (x8_1 : Int), v8 = .int .i64 x8_1 ∧ Aside0 (slices_IndexRows.l0 ff kq l0 (l0.length : Int) x8_1 = some r) ∧ Aside0 (kq ≤ k) ∧ Aside0 (Below w.heap.size w w'))
  case atStart => exact ⟨(0), (by first | rfl | (simp; done) | (simp [*]; done)), H', ⟨Nat.le_refl _⟩, ⟨by repeat (first | (with_reducible first | exact HB.out | apply below_alloc | apply pw_below_drewN | apply below_drew1) | exact HB.out)⟩⟩
  case round =>
    clear H'
    try clear p2
    obtain ⟨x8_1, rfl, HA, HK1, HB⟩ := hrel
    cases gk with
    | zero => exact absurd HA.out (by simp [slices_IndexRows.l0])
    | succ k1 =>
      have H := HA.out
      clear HA
      simp only [slices_IndexRows.l0] at H
      by_cases c3 : x8_1 < (l0.length : Int)
      · rw [if_pos c3] at H
        have c3b0 : decide (x8_1 < (l0.length : Int)) = true := decide_eq_true c3
        clear c3
        by_cases c4 : 0 ≤ x8_1
        · rw [if_pos c4] at H
          have c4b0 : decide (0 ≤ x8_1) = true := decide_eq_true c4
          clear c4
          by_cases c5 : x8_1 < (l0.length : Int)
          · rw [if_pos c5] at H
            have c5b0 : decide (x8_1 < (l0.length : Int)) = true := decide_eq_true c5
            clear c5
            replace H := Option.bind_eq_some_iff.mp H
            obtain ⟨t102, A60, H⟩ := H
            replace H : (if t102 = true then (some x8_1) else (slices_IndexRows.l0 ff k1 l0 (l0.length : Int) (wrap64 (x8_1 + 1)))) = some r := H
            have A6 := Aside0.mk A60
            clear A60
            by_cases c7 : t102 = true
            · subst c7
              have H1 : (some x8_1) = some r := by rw [if_pos rfl] at H; exact H
              clear H
              have H := H1
              clear H1
              obtain rfl := Option.some.inj H
              have p101 : 0 ≤ (x8_1 : Int) := of_decide_eq_true (by first | (with_reducible assumption) | assumption)
              have q101 : x8_1 < (l0.length : Int) := of_decide_eq_true (by first | (with_reducible assumption) | assumption)
              obtain ⟨ad101, A101_0, c101_0, e101, hx101_0, hl101_0, hi101_0⟩ := at_R HR0.out x8_1 p101 q101
              cases e101
              replace hx101_0 := (HB.out.cell (World.block_lt_of_cell? w _ hx101_0)).trans hx101_0
              have HR101_0 := Aside0.mk hi101_0
              have HC101_0 := Aside0.mk hl101_0
              clear hi101_0 hl101_0
              replace p101 := eq_true p101
              replace q101 := eq_true q101
              go_wp2_with (first | (refine goesVL_ (some 16) rfl rfl HG.out (.tmp 11) lb (by rfl) #[.slice A101_0 (rdR l0 x8_1).length c101_0] rfl (by (try simp only [List.map_toArray, List.map_cons, List.map_nil]); first | done | rfl | (simp only [List.length_drop, List.length_take]; rfl)) ?_; (with_reducible refine (HF.out _ _ (rdR l0 x8_1) true _ ?side1 ?side2 A6.out ?side3).mono ?_); (case side1 => repeat (first | exact (Kd.C_below HR101_0.out HB.out) | (with_reducible refine Kd.C_alloc ?_ _) | (with_reducible refine Kd.C_drewN ?_ _) | (with_reducible refine Kd.C_drew ?_))); (case side2 => exact HC101_0.out); (case side3 => repeat (first | (with_reducible first | exact HB.out | apply below_alloc | apply pw_below_drewN | apply below_drew1) | exact HB.out)); rintro e w8 ⟨rfl, hb⟩; refine ⟨_, rfl, ?_⟩; have n0_ := Aside0.mk (below_step (by repeat (first | (with_reducible first | exact HB.out | apply below_alloc | apply pw_below_drewN | apply below_drew1) | exact HB.out)) hb); clear HB; have HB := n0_; clear n0_; (try clear hb); (try clear hb2); (try clear hk); (try clear hi)))
              go_ret
              exact ⟨by first | rfl | (simp [errW_none, errW_some] <;> rfl) | (simp [*, errW_none, errW_some] <;> rfl), by repeat (first | (with_reducible first | exact HB.out | apply below_alloc | apply pw_below_drewN | apply below_drew1) | exact HB.out)⟩
            · replace c7 := Bool.eq_false_iff.mpr c7
              subst c7
              have H1 : (slices_IndexRows.l0 ff k1 l0 (l0.length : Int) (wrap64 (x8_1 + 1))) = some r := by rw [if_neg (show ¬ (false = true) by decide)] at H; exact H
              clear H
              have H := H1
              clear H1
              have H' := Aside0.mk H
              clear H
              have p101 : 0 ≤ (x8_1 : Int) := of_decide_eq_true (by first | (with_reducible assumption) | assumption)
              have q101 : x8_1 < (l0.length : Int) := of_decide_eq_true (by first | (with_reducible assumption) | assumption)
              obtain ⟨ad101, A101_0, c101_0, e101, hx101_0, hl101_0, hi101_0⟩ := at_R HR0.out x8_1 p101 q101
              cases e101
              replace hx101_0 := (HB.out.cell (World.block_lt_of_cell? w _ hx101_0)).trans hx101_0
              have HR101_0 := Aside0.mk hi101_0
              have HC101_0 := Aside0.mk hl101_0
              clear hi101_0 hl101_0
              replace p101 := eq_true p101
              replace q101 := eq_true q101
              go_wp2_with (first | (refine goesVL_ (some 16) rfl rfl HG.out (.tmp 11) lb (by rfl) #[.slice A101_0 (rdR l0 x8_1).length c101_0] rfl (by (try simp only [List.map_toArray, List.map_cons, List.map_nil]); first | done | rfl | (simp only [List.length_drop, List.length_take]; rfl)) ?_; (with_reducible refine (HF.out _ _ (rdR l0 x8_1) false _ ?side1 ?side2 A6.out ?side3).mono ?_); (case side1 => repeat (first | exact (Kd.C_below HR101_0.out HB.out) | (with_reducible refine Kd.C_alloc ?_ _) | (with_reducible refine Kd.C_drewN ?_ _) | (with_reducible refine Kd.C_drew ?_))); (case side2 => exact HC101_0.out); (case side3 => repeat (first | (with_reducible first | exact HB.out | apply below_alloc | apply pw_below_drewN | apply below_drew1) | exact HB.out)); rintro e w9 ⟨rfl, hb⟩; refine ⟨_, rfl, ?_⟩; have n0_ := Aside0.mk (below_step (by repeat (first | (with_reducible first | exact HB.out | apply below_alloc | apply pw_below_drewN | apply below_drew1) | exact HB.out)) hb); clear HB; have HB := n0_; clear n0_; (try clear hb); (try clear hb2); (try clear hk); (try clear hi)))
              go_roundg k1
              case measure => have := HK1.out; omega
              case rel => exact ⟨(wrap64 (x8_1 + 1)), (by first | rfl | (simp; done) | (simp [*]; done)), H', ⟨by have := HK1.out; omega⟩, ⟨by repeat (first | (with_reducible first | exact HB.out | apply below_alloc | apply pw_below_drewN | apply below_drew1) | exact HB.out)⟩⟩
          · rw [if_neg c5] at H
            exact absurd H (by simp)
        · rw [if_neg c4] at H
          exact absurd H (by simp)
      · rw [if_neg c3] at H
        have c3b0 : decide (x8_1 < (l0.length : Int)) = false := decide_eq_false c3
        clear c3
        obtain rfl := Option.some.inj H
        go_wp2
        go_ret
        exact ⟨by first | rfl | (simp [errW_none, errW_some] <;> rfl) | (simp [*, errW_none, errW_some] <;> rfl), by repeat (first | (with_reducible first | exact HB.out | apply below_alloc | apply pw_below_drewN | apply below_drew1) | exact HB.out)⟩
theorem rdR_nat (l : List (List Int)) (i : Nat) (h : i < l.length) : rdR l (i : Int) = l[i] := by
  unfold rdR; rw [Int.toNat_natCast, List.getD_eq_getElem?_getD, List.getElem?_eq_getElem h, Option.getD_some]
theorem idxR_loop (ff : List Int → Option Bool) (p : List Int → Bool) (l : List (List Int)) (hp : ∀ x ∈ l, ff x = some (p x)) (hl : l.length < 9223372036854775807) (d : Nat) : ∀ (i k : Nat), i + d = l.length → d < k → (∀ j (h : j < i) (h2 : j < l.length), p l[j] = false) →
    slices_IndexRows.l0 ff k l (l.length : Int) i = some (if l.findIdx p < l.length then (l.findIdx p : Int) else -1) := by
  induction d with
  | zero =>
    intro i k hi hk hq
    obtain ⟨k, rfl⟩ : ∃ m, k = m + 1 := ⟨k - 1, by omega⟩
    simp only [slices_IndexRows.l0]
    rw [if_neg (by omega), if_neg]
    intro h
    have h2 := List.findIdx_getElem (w := h)
    have h3 := hq (l.findIdx p) (by omega) h
    rw [h3] at h2; cases h2
  | succ d ih =>
    intro i k hi hk hq
    obtain ⟨k, rfl⟩ : ∃ m, k = m + 1 := ⟨k - 1, by omega⟩
    simp only [slices_IndexRows.l0]
    have hil : i < l.length := by omega
    rw [if_pos (by omega), if_pos (by omega), if_pos (by omega), rdR_nat l i hil, hp _ (List.getElem_mem hil), Option.bind_some]
    by_cases c : p l[i] = true
    · rw [if_pos c]
      have h1 : l.findIdx p = i := (List.findIdx_eq hil).2 ⟨c, fun j hj => hq j hj (by omega)⟩
      rw [h1, if_pos hil]
    · rw [if_neg c, show wrap64 ((i : Int) + 1) = ((i + 1 : Nat) : Int) from by unfold wrap64; omega]
      refine ih (i + 1) k (by omega) (by omega) fun j hj h2 => ?_
      by_cases e : j = i
      · subst e; simpa using c
      · exact hq j (by omega) h2
theorem idxR_f (ff : List Int → Option Bool) (p : List Int → Bool) (l : List (List Int)) (hp : ∀ x ∈ l, ff x = some (p x)) (hl : l.length < 9223372036854775807) : slices_IndexRows.f ff (l.length + 1) l = some (if l.findIdx p < l.length then (l.findIdx p : Int) else -1) :=
  idxR_loop ff p l hp hl l.length 0 _ (by omega) (by omega) (fun j hj _ => absurd hj (by omega))
set_option maxRecDepth 100000 in
theorem contains_calls (ff : List Int → Option Bool) (p : List Int → Bool) (A0 : Option Addr) (c0 : Nat) (l0 : List (List Int)) (g : FuncId) (lb : Array Value) (hg : FnOk Try.prog g) (w : World) (hF : ∀ (A : Option Addr) (c : Nat) (x : List Int) (r : Bool) (W : World), Kd.C (Kd.int .u8) W A x.length x → x.length ≤ c → ff x = some r → Below w.heap.size w W → Calls Try.prog g (#[.slice A x.length c] ++ lb) W fun e w2 => e = .returned (.bool r) ∧ Below W.heap.size W w2)
    (hr0 : Kd.C (Kd.slice 5 (Kd.int .u8)) w A0 l0.length l0) (hc0 : l0.length ≤ c0) (hp : ∀ x ∈ l0, ff x = some (p x)) (hl : l0.length < 9223372036854775807) :
    Calls Try.prog 53 #[.slice A0 l0.length c0, .func (.func g) #[] lb] w fun e w' => e = .returned (.bool (l0.any p)) ∧ Below w.heap.size w w' := by
  have HE := Aside0.mk (slices_IndexRows.calls ff (l0.length + 1) A0 c0 l0 g lb hg _ w hF hr0 hc0 (idxR_f ff p l0 hp hl))
  have he : decide ((if l0.findIdx p < l0.length then (l0.findIdx p : Int) else -1) ≥ 0) = l0.any p := by
    by_cases h : l0.findIdx p < l0.length
    · rw [if_pos h, decide_eq_true (by omega), eq_comm, List.any_eq_true]
      exact ⟨_, List.getElem_mem h, List.findIdx_getElem (w := h)⟩
    · rw [if_neg h, decide_eq_false (by omega), eq_comm, List.any_eq_false]
      intro x hx
      have := List.findIdx_eq_length.1 (Nat.le_antisymm List.findIdx_le_length (Nat.le_of_not_lt h)) x hx
      simp [this]
  generalize (if l0.findIdx p < l0.length then (l0.findIdx p : Int) else -1) = z at HE he
  clear hr0 hp
  go_enter Try.func53, Try.ntmps53
  go_wp2_with (go_at_call 60; refine HE.out.mono ?_; rintro e w1 ⟨rfl, hb1⟩)
  go_ret
  exact ⟨by rw [← he]; first | rfl | simp, hb1⟩
end Go.Proofs.Ytpfaaljmefgpbaa.Hand
set_option linter.unusedVariables false
set_option linter.unusedSimpArgs false
namespace Go.Proofs.Ytpfaaljmefgpbaa.Hand
open Go.RowKit Go.Proofs.YtpfaaljmefgpbaaW.PrintWords Go.Proofs.YtpfaaljmefgpbaaW.PrintLast Go.Proofs.YtpfaaljmefgpbaaW.PrintMore
theorem ok_size1 : FnOk Try.prog 54 := ⟨⟨_, Try.func54, by rfl, rfl⟩⟩
set_option maxRecDepth 100000 in
theorem size1_fn (A : Option Addr) (c : Nat) (x : List Int) (n : Int) (B : Nat) (w : World) (hc : w.cell? ⟨B, 0, none⟩ = some (.int .i64 n)) :
    Calls Try.prog 54 #[.slice A x.length c, .pointer (some ⟨B, 0, none⟩)] w fun e w' => e = .returned (.bool ((x.length : Int) != n)) ∧ Below w.heap.size w w' := by
  go_enter Try.func54, Try.ntmps54
  go_wp2
  go_ret
  exact ⟨rfl, Below.refl _ _⟩
def matrix_Size.f (l0 : List (List Int)) : Option (Int × Int × Int) := if l0.length < 9223372036854775807 then (if l0.length = 0 then some (0, 0, 0) else if l0.any (fun x => (x.length : Int) != ((rdR l0 0).length : Int)) then some (0, 0, 21) else some ((l0.length : Int), ((rdR l0 0).length : Int), 0)) else none
set_option maxRecDepth 100000 in
theorem matrix_Size.calls (A0 : Option Addr) (c0 : Nat) (l0 : List (List Int)) (r1 r2 r3 : Int) (w : World) (hr0 : Kd.C (Kd.slice 5 (Kd.int .u8)) w A0 l0.length l0) (hc0 : l0.length ≤ c0) (h : matrix_Size.f l0 = some (r1, r2, r3)) :
    Calls Try.prog 32 #[.slice A0 l0.length c0] w fun e w' => e = .returned (.tuple #[.int .i64 r1, .int .i64 r2, .int .i64 r3]) ∧ Below w.heap.size w w' := by
  unfold matrix_Size.f at h
  by_cases hl : l0.length < 9223372036854775807
  · rw [if_pos hl] at h
    by_cases h0 : l0.length = 0
    · rw [if_pos h0] at h
      simp only [Option.some.injEq, Prod.mk.injEq] at h
      obtain ⟨rfl, rfl, rfl⟩ := h
      have c4b2 : ((l0.length : Int) == 0) = true := by rw [h0]; rfl
      clear hr0
      go_enter Try.func32, Try.ntmps32
      go_wp2
      go_ret3
      exact ⟨rfl, Below.refl _ _⟩
    · rw [if_neg h0] at h
      have c4b2 : ((l0.length : Int) == 0) = false := by simp; exact List.length_pos_iff.1 (by omega)
      have p0 : (0 : Int) ≤ 0 := by decide
      have q0 : (0 : Int) < (l0.length : Int) := by omega
      obtain ⟨ad, A1, c1, e1, hx1, hl1, hi1⟩ := at_R hr0 0 p0 q0
      cases e1
      have q0b := eq_true q0
      have qi0 : (0 < l0.length) = True := eq_true (by omega)
      rw [show ((0 : Int)).toNat = 0 from rfl, Addr.add_zero'] at hx1
      have HE := Aside0.mk (fun (w1 : World) (B : Nat) (hB : B < w1.heap.size) (hcell : w1.cell? ⟨B, 0, none⟩ = some (.int .i64 ((rdR l0 0).length : Int))) (a : Kd.C (Kd.slice 5 (Kd.int .u8)) w1 (some ad) l0.length l0) =>
        contains_calls (fun x => some ((x.length : Int) != ((rdR l0 0).length : Int))) (fun x => (x.length : Int) != ((rdR l0 0).length : Int)) (some ad) c0 l0 54 #[.pointer (some ⟨B, 0, none⟩)] ok_size1 w1
          (fun A c x r W hA hc hr hbW => by
            obtain rfl := Option.some.inj hr
            have := size1_fn A c x ((rdR l0 0).length : Int) B W ((hbW.cell (p := ⟨B, 0, none⟩) hB).trans hcell)
            simpa using this) a hc0 (fun x _ => rfl) hl)
      have HR0 := Aside0.mk (Kd.C_alloc hr0 (.cells #[.int .i64 ((rdR l0 0).length : Int)] 3))
      have Hh := Aside0.mk h
      clear h hr0 hi1 h0
      generalize hz : (rdR l0 0).length = z at *
      generalize ha : (l0.any fun x => (x.length : Int) != (z : Int)) = b at *
      cases b with
      | true =>
        have h := Hh.out
        rw [if_pos rfl] at h
        simp only [Option.some.injEq, Prod.mk.injEq] at h
        obtain ⟨rfl, rfl, rfl⟩ := h
        go_enter Try.func32, Try.ntmps32
        go_wp2_with (go_at_call 53; refine (HE.out _ w.heap.size (by simp) (by simp) HR0.out).mono ?_; rintro e w1 ⟨rfl, hb1⟩)
        go_ret3
        exact ⟨rfl, box_lower rfl hb1⟩
      | false =>
        have h := Hh.out
        rw [if_neg (by decide)] at h
        simp only [Option.some.injEq, Prod.mk.injEq] at h
        obtain ⟨rfl, rfl, rfl⟩ := h
        go_enter Try.func32, Try.ntmps32
        go_wp2_with (go_at_call 53; refine (HE.out _ w.heap.size (by simp) (by simp) HR0.out).mono ?_; rintro e w1 ⟨rfl, hb1⟩; have hcell := (hb1.cell (p := ⟨w.heap.size, 0, none⟩) (by simp)).trans (show (w.alloc (.cells #[.int .i64 (z : Int)] 3)).cell? ⟨w.heap.size, 0, none⟩ = some (.int .i64 (z : Int)) from by simp))
        go_quiet (fail)
        go_wp2
        go_ret3
        exact ⟨rfl, by first | exact box_lower rfl hb1 | (apply pw_below_drewN; exact box_lower rfl hb1)⟩
  · rw [if_neg hl] at h; cases h
end Go.Proofs.Ytpfaaljmefgpbaa.Hand
end

section
namespace Go.Proofs.Ytpfaaljmefgpbaa.PK
open Go.Proofs.Ytpfaaljmefgpbaa.Hand Go.RowKit Go.Proofs.YtpfaaljmefgpbaaW.PrintWords Go.Proofs.YtpfaaljmefgpbaaW.PrintLast Go.Proofs.YtpfaaljmefgpbaaW.PrintMore
attribute [local go_sem] max2_int min2_int max_two min_two max_three min_three max_four min_four   -- for this text's walks alone
set_option linter.unusedVariables false
set_option linter.unusedSimpArgs false
def errW : Option Int → Value
  | none => .nilIface
  | some c => .iface 0 (.int .i64 c)
theorem errW_none : errW none = .nilIface := rfl
theorem errW_some (c : Int) : errW (some c) = .iface 0 (.int .i64 c) := rfl
theorem info5 : (Try.prog.info? 5).map (fun i => (i.zero, i.size, i.bytes)) = some (some (.int .u8 0), 1, 1) := by kernel_rfl
theorem info22 : (Try.prog.info? 22).map (fun i => (i.zero, i.size, i.bytes)) = some (some (.slice none 0 0), 1, 24) := by kernel_rfl
-- the values' own types
def rd_L1 (xs : List (List Int)) (i : Int) : (List Int) := xs.getD i.toNat ([] : List Int)
theorem at_L1 {w : World} {A : Option Addr} {n : Nat} {xs : List (List Int)} (h : Kd.C (Kd.slice 5 (Kd.int .u8)) w A n xs) (i : Int) (h0 : 0 ≤ i) (h1 : i < n) : ∃ ad A0 c0, A = some ad ∧ w.cell? (ad.add i.toNat) = some (.slice A0 (rd_L1 xs i).length c0) ∧ (rd_L1 xs i).length ≤ c0 ∧ (Kd.int .u8).C w A0 (rd_L1 xs i).length (rd_L1 xs i) := by
  obtain ⟨ad, c, e, _, hK, hc0⟩ := Kd.C_get h ([] : List Int) i h0 h1
  have hc : ∀ j u, c[j]? = some u → w.cell? (ad.add (i.toNat * 1 + j)) = some u := hc0
  obtain ⟨A0, c0, rfl, l0, g0⟩ := hK
  exact ⟨ad, A0, c0, e, by have hq := hc 0 _ rfl; rwa [Nat.mul_one, Nat.add_zero] at hq, l0, g0⟩
end Go.Proofs.Ytpfaaljmefgpbaa.PK
end
