/- FieldKnown: the powers of 3 are all others than 0, each once: they are laid into a map of the call's own. -/
import Derived.Test.YtemkpbekddceiaaHFieldRef
import Derived.Maps.OwnOps
import Derived.Maps.Views
set_option linter.unusedVariables false
set_option linter.unusedSimpArgs false
namespace Go.Proofs.Ytemkpbekddceiaa.Hand
open Go.RowKit Go.Proofs.Ytemkpbekddceiaa.P Go.Proofs.Ytemkpbekddceiaa.GF Go.Proofs.YtemkpbekddceiaaW.PrintWords Go.Proofs.YtemkpbekddceiaaW.PrintLast Go.Proofs.YtemkpbekddceiaaW.PrintMore
open Go.Maps (Keyed)
/-- the powers of 3 -/
def pk (n : Nat) : Int := ofG (GF.pow three n)
theorem pk_B (n : Nat) : isB (pk n) := ofG_range _
theorem pk_wf (n : Nat) : (Lit.int .u8 (pk n)).wf = true := by
  have h := pk_B n
  unfold isB at h
  have e1 : IntKind.u8.min = 0 := rfl
  have e2 : IntKind.u8.max = 255 := rfl
  simp only [Lit.wf, e1, e2, Bool.and_eq_true, decide_eq_true_eq]
  omega
theorem pk_ne {m n : Nat} (hm : m < 255) (hn : n < 255) (h : m ≠ n) : pk m ≠ pk n := fun e => h (pow_inj hm hn (ofG_inj e))
theorem pk_zero (n : Nat) (hn : n < 255) : pk n ≠ 0 := fun e => by
  have h1 : GF.pow three n = 0#8 := ofG_inj e
  have h2 : GF.pow three (n + (255 - n)) = 1#8 := by rw [show n + (255 - n) = 255 from by omega]; exact three_255
  rw [pow_add, h1, zero_mul] at h2
  exact absurd h2 (by decide)
def keyL (n : Nat) : Lit := .int .u8 (pk n)
theorem keyL_ok (n : Nat) : WideAt.IsKeyLit (keyL n) := by simp [keyL, WideAt.IsKeyLit]
/-- what the map holds after n powers -/
def DD (n : Nat) : DataW Unit := Go.Maps.setOf (.lit (.int .i64 1)) ((List.range n).map keyL)
theorem DD_succ (n : Nat) : DD (n + 1) = (DD n).put (keyL n) (.lit (.int .i64 1)) := by
  unfold DD; rw [List.range_succ, List.map_append]; exact Go.Maps.setOf_snoc _ _ _
theorem keys_ok (n : Nat) : ∀ x ∈ (List.range n).map keyL, WideAt.IsKeyLit x := fun x hx => by
  obtain ⟨j, _, rfl⟩ := List.mem_map.1 hx
  exact keyL_ok j
theorem DD_has (n : Nat) (hn : n < 255) : Go.Maps.has (DD n) (keyL n) = false := by
  unfold DD
  rw [Go.Maps.has_setOf _ _ _ (keys_ok n), List.any_eq_false]
  intro x hx
  obtain ⟨j, hj, rfl⟩ := List.mem_map.1 hx
  have hj := List.mem_range.1 hj
  have h := pk_ne (show j < 255 by omega) hn (by omega)
  simp [keyL, Lit.sameKey, h]
theorem DD_size : ∀ n, n ≤ 255 → Go.Maps.size (DD n) = n
  | 0, _ => rfl
  | n + 1, h => by
    have ht : Go.Maps.Tidy (DD n) := Go.Maps.tidy_setOf _ _ (keys_ok n)
    rw [DD_succ, Go.Maps.size_put ht, DD_has n (by omega), DD_size n (by omega)]; rfl
theorem DD_at (n : Nat) (hn : n < 255) (z : DataW Unit) : (DD n).atKey (keyL n) z = z := Go.Maps.atKey_of_not_has (DD_has n hn) z
theorem own_below {w w' : World} {k : TypeId} {R : Value → Option (DataW Unit × List MemPlace)} {b n : Nat} {D : DataW Unit} (h : w.ownsMap Try.prog k R b n D) (hb : Below w.heap.size w w') : w'.ownsMap Try.prog k R b n D := by
  have hlt := h.lt
  obtain ⟨es, clock, h1, h2, h3, h4⟩ := h
  exact ⟨es, clock, (hb.block b hlt).trans h1, h2, h3, h4⟩
theorem own_len {w : World} {k : TypeId} {R : Value → Option (DataW Unit × List MemPlace)} {b n : Nat} {D : DataW Unit} (h : w.ownsMap Try.prog k R b n D) : ∃ es clock, w.heap[b]? = some (.map es clock) ∧ es.size = Go.Maps.size D := by
  obtain ⟨es, clock, h1, _, _, rfl⟩ := h
  refine ⟨es, clock, h1, ?_⟩
  show es.size = List.length _
  rw [length_sorted, List.length_map, Array.length_toList]
theorem awake_k (w : World) : Calls Try.prog 12 #[] w fun e w' => e = .returned (.bool true) ∧ Below w.heap.size w w' := braidworklaw01_awake.calls true w awake_f
theorem lawU8 : Keyed Try.prog 5 := Go.Maps.int_keyed Try.underlying5
theorem zeroI (w : World) : (zeroValue 3).run Try.prog w = .ok (.int .i64 0) w := by kernel_rfl
theorem kn_next (k : Nat) (h : k ≤ 255) : wrap64 ((k : Int) + 1) = ((k + 1 : Nat) : Int) := by unfold wrap64; omega
set_option maxHeartbeats 4000000 in
set_option maxRecDepth 100000 in
theorem fieldKnown_calls (w : World) : Calls Try.prog 9 #[] w fun e w' => e = .returned (.bool true) ∧ Below w.heap.size w w' := by
  have hmm := @run_makeMap Try.prog
  have hlen := fun (W : World) (r : Nat) (es : Array MapEntry) (clock : Nat) (ty : TypeId) (hb : W.heap[r]? = some (.map es clock)) => run_len_map (P := Try.prog) (w := W) 48 ty r es clock (by kernel_rfl) hb
  have E1 := Aside0.mk (show field_Exp.f 255 = some (0, 1) from by unfold field_Exp.f; rw [if_neg (by decide), if_pos (by decide)])
  have E2 := Aside0.mk (show field_Exp.f (-1) = some (0, 1) from by unfold field_Exp.f; rw [if_pos (by decide)])
  have E3 := Aside0.mk (show field_Log.f 0 = some (0, 1) from by unfold field_Log.f; rw [if_pos ⟨by decide, by decide⟩, if_pos rfl])
  have E4 := Aside0.mk (show field_Inv.f 0 = some (0, 1) from by unfold field_Inv.f; rw [if_pos ⟨by decide, by decide⟩, if_pos rfl])
  have E5 := Aside0.mk (show field_Div.f 1 0 = some (0, 1) from by rw [div_f ⟨by decide, by decide⟩ ⟨by decide, by decide⟩]; unfold gd; rw [if_pos rfl])
  have E6 := Aside0.mk (show field_Pow.f 2 (-1) = some (0, 1) from by unfold field_Pow.f; rw [if_pos ⟨by decide, by decide⟩, if_pos (by decide)])
  have E7 := Aside0.mk (show field_Pow.f 0 0 = some (1, 0) from by unfold field_Pow.f; rw [if_pos ⟨by decide, by decide⟩, if_neg (by decide)]; rfl)
  have E8 := Aside0.mk (show field_Pow.f 0 5 = some (0, 0) from by unfold field_Pow.f; rw [if_pos ⟨by decide, by decide⟩, if_neg (by decide)]; decide +kernel)
  go_enter Try.func9, Try.ntmps9
  go_wp2
  go_loopg [22] 255 (fun kq v22 w' => ∃ k : Nat, v22 = .int .i64 (k : Int) ∧ Aside0 (kq + k = 255) ∧ Aside0 (w'.ownsMap Try.prog 5 (plainElem (H := Unit) Try.prog 3) w.heap.size k (DD k)) ∧ Aside0 (Below w.heap.size w w'))
  case atStart => exact ⟨0, rfl, ⟨rfl⟩, ⟨World.ownsMap_made _ _ _ _⟩, ⟨(Below.refl _ _).alloc (Nat.le_refl _) _⟩⟩
  case round =>
    obtain ⟨k, rfl, HK, HM, HB⟩ := hrel
    by_cases hk : k < 255
    · have q1 : decide ((k : Int) < 255) = true := decide_eq_true (by omega)
      have q2 : ((k : Int) < 255) = True := eq_true (by omega)
      have q3 : (k < 255) = True := eq_true hk
      have z1 : (pk k == 0) = false := by simpa using pk_zero k hk
      have z2 : (pk k = 0) = False := eq_false (pk_zero k hk)
      have HE := Aside0.mk (show field_Exp.f (k : Int) = some (pk k, 0) from by unfold field_Exp.f; rw [if_neg (by omega), if_neg (by omega), Int.toNat_natCast]; rfl)
      have hkey : keyOf Try.prog 5 (.int .u8 (pk k)) = some (keyL k) := Go.Maps.keyOf_int_mk Try.underlying5 (pk_wf k)
      have HAT := Aside0.mk (DD_at k hk)
      have hnx := kn_next k (by omega)
      have Hk := Aside0.mk hk
      clear hk
      cases gk with
      | zero => exact absurd HK.out (by have := Hk.out; omega)
      | succ k1 =>
      go_wp2_with (first
        | (go_at_call 21; with_reducible refine (field_Exp.calls (k : Int) (pk k) 0 _ HE.out).mono ?_; rintro e w2 ⟨rfl, hb⟩; replace HM := Aside0.mk (own_below HM.out hb); replace HB := Aside0.mk (HB.out.trans (hb.mono HB.out.size)); clear hb; obtain ⟨c, hrun, hat, hwc⟩ := HM.out.lookup_int lawU8 Try.underlying48 Try.underlying3 (zeroI _) hkey; rw [HAT.out] at hat; cases hat)
        | (at_mapUpdate; refine wpList_mapUpdate_own _ rfl _ _ _ 48 rfl 5 3 lawU8 Try.underlying48 (plainElem (H := Unit) Try.prog 3) w.heap.size k (DD k) rfl HM.out (by unfold maxLen; have := Hk.out; omega) _ _ _ rfl rfl hkey _ [] (plainElem_int Try.underlying3 (by decide)) ?_; intro w3 hown hgrow; have HM3 := Aside0.mk hown; have HB3 := Aside0.mk (HB.out.grown hgrow HB.out.size (fun j hj => by cases hj; exact Nat.le_refl _)); clear hown hgrow))
      go_roundg k1
      case measure => omega
      case rel => exact ⟨k + 1, by first | rfl | rw [hnx], ⟨by have := HK.out; omega⟩, ⟨by rw [DD_succ]; exact HM3.out⟩, HB3⟩
    · have q1 : decide ((k : Int) < 255) = false := decide_eq_false (by omega)
      have q2 : ((k : Int) < 255) = False := eq_false (by omega)
      have q3 : (k < 255) = False := eq_false hk
      have e : k = 255 := by have := HK.out; omega
      subst e
      clear hk HK
      go_wp2_with (first
        | (go_at_call 21; with_reducible refine (field_Exp.calls 255 0 1 _ E1.out).mono ?_; rintro e w2 ⟨rfl, hb⟩; replace HM := Aside0.mk (own_below HM.out hb); replace HB := Aside0.mk (HB.out.trans (hb.mono HB.out.size)); clear hb)
        | (go_at_call 21; with_reducible refine (field_Exp.calls (-1) 0 1 _ E2.out).mono ?_; rintro e w2 ⟨rfl, hb⟩; replace HM := Aside0.mk (own_below HM.out hb); replace HB := Aside0.mk (HB.out.trans (hb.mono HB.out.size)); clear hb)
        | (go_at_call 23; with_reducible refine (field_Log.calls 0 0 1 _ E3.out).mono ?_; rintro e w2 ⟨rfl, hb⟩; replace HM := Aside0.mk (own_below HM.out hb); replace HB := Aside0.mk (HB.out.trans (hb.mono HB.out.size)); clear hb)
        | (go_at_call 15; with_reducible refine (field_Inv.calls 0 0 1 _ E4.out).mono ?_; rintro e w2 ⟨rfl, hb⟩; replace HM := Aside0.mk (own_below HM.out hb); replace HB := Aside0.mk (HB.out.trans (hb.mono HB.out.size)); clear hb)
        | (go_at_call 13; with_reducible refine (field_Div.calls 1 0 0 1 _ E5.out).mono ?_; rintro e w2 ⟨rfl, hb⟩; replace HM := Aside0.mk (own_below HM.out hb); replace HB := Aside0.mk (HB.out.trans (hb.mono HB.out.size)); clear hb)
        | (go_at_call 19; with_reducible refine (field_Pow.calls 2 (-1) 0 1 _ E6.out).mono ?_; rintro e w2 ⟨rfl, hb⟩; replace HM := Aside0.mk (own_below HM.out hb); replace HB := Aside0.mk (HB.out.trans (hb.mono HB.out.size)); clear hb)
        | (go_at_call 19; with_reducible refine (field_Pow.calls 0 0 1 0 _ E7.out).mono ?_; rintro e w2 ⟨rfl, hb⟩; replace HM := Aside0.mk (own_below HM.out hb); replace HB := Aside0.mk (HB.out.trans (hb.mono HB.out.size)); clear hb)
        | (go_at_call 19; with_reducible refine (field_Pow.calls 0 5 0 0 _ E8.out).mono ?_; rintro e w2 ⟨rfl, hb⟩; replace HM := Aside0.mk (own_below HM.out hb); replace HB := Aside0.mk (HB.out.trans (hb.mono HB.out.size)); clear hb)
        | (go_at_call 12; with_reducible refine (awake_k _).mono ?_; rintro e w2 ⟨rfl, hb⟩; replace HM := Aside0.mk (own_below HM.out hb); replace HB := Aside0.mk (HB.out.trans (hb.mono HB.out.size)); clear hb; obtain ⟨es, clock, hes, hsz⟩ := own_len HM.out; rw [DD_size 255 (Nat.le_refl _)] at hsz; have hln := fun ty => hlen _ _ es clock ty hes; rw [hsz] at hln))
      go_ret
      exact ⟨rfl, HB.out⟩
end Go.Proofs.Ytemkpbekddceiaa.Hand
