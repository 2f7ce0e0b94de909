/- QTB, part 11: HSlInsB. -/
import Derived.Test.YtpfaaljmefgpbaaQTB10

section
set_option linter.unusedVariables false
set_option linter.unusedSimpArgs false
namespace Go.Proofs.Ytpfaaljmefgpbaa.Hand
open Go.RowKit Go.Lib Go.Proofs.YtpfaaljmefgpbaaW.PrintWords Go.Proofs.YtpfaaljmefgpbaaW.PrintLast Go.Proofs.YtpfaaljmefgpbaaW.PrintMore
theorem below_sets {B g : Nat} (hg : B ≤ g) (vs : List Value) (o : Nat) (w : World) : Below B w (w.setCells g o vs) := by
  obtain ⟨h1, h2, h3, h4⟩ := setCells_same g vs o w
  exact ⟨h1, h2, h3, Nat.le_of_eq h4.symm, fun k hk => setCells_far vs o k (by omega)⟩
theorem cell_of {W : World} {g : Nat} {cur : Array Value} {e : TypeId} (h : W.heap[g]? = some (.cells cur e (0, 0))) (j : Nat) : W.cell? ⟨g, j, none⟩ = cur[j]? := by simp [World.cell?, h]
theorem froz_of {W : World} {g : Nat} {cur : Array Value} {e : TypeId} (h : W.heap[g]? = some (.cells cur e (0, 0))) (j : Nat) : W.frozen? ⟨g, j, none⟩ = false := by simp [World.frozen?, h]
theorem set_room {α : Type} {l ws vs : List α} {o : Nat} (hv : vs.length = 2) (ho : o + 2 ≤ l.length) :
    ((l.take (o + 2) ++ ws ++ l.drop (o + 2 + ws.length)).take o ++ vs ++ (l.take (o + 2) ++ ws ++ l.drop (o + 2 + ws.length)).drop (o + vs.length)).take (o + 2 + ws.length) = l.take o ++ vs ++ ws := by
  have h1 : (l.take (o + 2)).length = o + 2 := by rw [List.length_take]; omega
  have h2 : (l.take (o + 2) ++ ws ++ l.drop (o + 2 + ws.length)).take o = l.take o := by
    rw [List.append_assoc, List.take_append_of_le_length (by omega), List.take_take]; congr 1; omega
  have h3 : (l.take (o + 2) ++ ws ++ l.drop (o + 2 + ws.length)).drop (o + vs.length) = ws ++ l.drop (o + 2 + ws.length) := by
    rw [hv, List.append_assoc]; exact List.drop_left' h1
  rw [h2, h3]
  have h4 : (l.take o).length = o := by rw [List.length_take]; omega
  rw [← List.append_assoc, List.take_append_of_le_length (by simp only [List.length_append, h4, hv]; omega), List.take_of_length_le (by simp only [List.length_append, h4, hv]; omega)]
theorem set_grow {α : Type} {l ws vs : List α} {o : Nat} (hv : vs.length = 2) (ho : o + 2 ≤ l.length) :
    ((l.take o ++ vs ++ l.drop (o + vs.length)).take (o + 2) ++ ws ++ (l.take o ++ vs ++ l.drop (o + vs.length)).drop (o + 2 + ws.length)).take (o + 2 + ws.length) = l.take o ++ vs ++ ws := by
  have h4 : (l.take o).length = o := by rw [List.length_take]; omega
  have h2 : (l.take o ++ vs ++ l.drop (o + vs.length)).take (o + 2) = l.take o ++ vs := by
    rw [List.take_append_of_le_length (by simp only [List.length_append, h4, hv]; omega), List.take_of_length_le (by simp only [List.length_append, h4, hv]; omega)]
  rw [h2, List.take_append_of_le_length (by simp only [List.length_append, h4, hv]; omega), List.take_of_length_le (by simp only [List.length_append, h4, hv]; omega)]
theorem infoBS : (Try.prog.info? 35).map (·.size) = some 2 := by kernel_rfl
set_option maxHeartbeats 4000000 in
set_option maxRecDepth 100000 in
theorem slIns_room (w : World) (g cap n i vb vc : Nat) (cur cv : Array Value) (inner vs : List Value) (hi : i < n) (hroom : n + 1 ≤ cap) (hc63 : cap ≤ maxLen) (hvb : vb ≠ g)
    (hg : w.heap[g]? = some (.cells cur 35 (0, 0))) (hs : cur.size = cap * 2) (hin : cur.toList.take (n * 2) = inner) (hil : inner.length = n * 2) (hone : ∀ v ∈ inner, v.oneCell' = true)
    (hv : w.heap[vb]? = some (.cells cv 35 (0, 0))) (hvs : ∀ (j : Nat) (v : Value), vs[j]? = some v → cv[j]? = some v) (hvl : vs.length = 2) (hvone : ∀ v ∈ vs, v.oneCell' = true) :
    Calls Try.prog 30 #[.slice (some ⟨g, 0, none⟩) n cap, .int .i64 (i : Int), .slice (some ⟨vb, 0, none⟩) 1 vc] w fun e w' => e = .returned (.slice (some ⟨g, 0, none⟩) (n + 1) cap) ∧ w' = (w.drew.setCells g ((i + 1) * 2) (inner.drop (i * 2))).setCells g (i * 2) vs := by
  have hz2 : ((i : Int) == (n : Int)) = false := by simp; omega
  have hw1 : wrap64 ((n : Int) + 1) = ((n + 1 : Nat) : Int) := by unfold wrap64 maxLen at *; omega
  have hw2 : wrap64 ((i : Int) + 1) = ((i + 1 : Nat) : Int) := by unfold wrap64 maxLen at *; omega
  have hb5 : decide ((cap : Int) < ((n + 1 : Nat) : Int)) = false := by simp; omega
  have hb6 : decide (((n + 1 : Nat) : Int) > (cap : Int)) = false := by simp; omega
  go_enter Try.func30, Try.ntmps30
  obtain ⟨info, hinfo, hinf2⟩ := Option.map_eq_some_iff.1 infoBS
  have hsize : ∀ w, (Go.sizeOf 35).run Try.prog w = .ok 2 w := fun w => by simp [Go.sizeOf, typeInfo, hinfo, hinf2]
  have hov : ∀ lb cb, (callFunc 51 #[.slice (some ⟨vb, 0, none⟩) 1 vc, .slice (some ⟨g, (i + 1) * 2, none⟩) lb cb]).run Try.prog w = .ok (.value (.bool false)) w := fun lb cb => by
    rw [run_callFunc_extern Try.func51 (by kernel_rfl) (by kernel_rfl) (by kernel_rfl) (e := Extern.SlicesOverlaps.overlaps #[26, 26] #[4]) (by kernel_rfl),
      Lib.run_overlaps_apart w 26 4 35 Try.underlying26 2 hsize ⟨vb, 0, none⟩ ⟨g, (i + 1) * 2, none⟩ 1 vc lb cb hvb 35 35 cv.size cur.size (by simp [World.shape?, hv]) (by simp [World.shape?, hg]) (by omega) (froz_of hv _) (froz_of hv _)]
    rfl
  have hcs : ∀ j v, inner[j]? = some v → cur[j]? = some v := fun j v hj => by
    rw [← hin, List.getElem?_take] at hj
    split at hj
    · rwa [Array.getElem?_toList] at hj
    · cases hj
  have hdl : (inner.drop (i * 2)).length = (n - i) * 2 := by rw [List.length_drop, hil]; omega
  have hgd : w.drew.heap[g]? = some (.cells cur 35 (0, 0)) := hg
  have hcp1 : ∀ ty dc sc, (Builtin.copy_ #[26, 26] ty #[.slice (some ⟨g, (i + 1) * 2, none⟩) (n - i) dc, .slice (some ⟨g, i * 2, none⟩) (n + 1 - i) sc]).run Try.prog w.drew = .ok (goInt (Nat.min (n + 1 - i) (n - i))) (w.drew.setCells g ((i + 1) * 2) (inner.drop (i * 2))) := fun ty dc sc =>
    run_copy_k w.drew _ _ ty 35 g ((i + 1) * 2) (n - i) dc ⟨g, i * 2, none⟩ (n + 1 - i) sc (inner.drop (i * 2)) 2 Try.underlying26 infoBS (by rw [hdl]; congr 1; simp only [Nat.min_def]; split <;> omega)
      (fun j v hj => by rw [Addr.add_lit, cell_of hgd]; exact hcs _ _ (by rwa [List.getElem?_drop] at hj))
      (fun j hj => by rw [cell_of hgd, Array.getElem?_eq_getElem (by omega)]; rfl) (fun j hj => froz_of hgd _) (fun v hv => hone v (List.mem_of_mem_drop hv))
  obtain ⟨cur1, g1, g2, g3⟩ := setCells_row (inner.drop (i * 2)) ((i + 1) * 2) w.drew cur hgd (by omega)
  have hvd : (w.drew.setCells g ((i + 1) * 2) (inner.drop (i * 2))).heap[vb]? = some (.cells cv 35 (0, 0)) := (setCells_far _ _ vb hvb).trans hv
  have hcp2 : ∀ ty dc, (Builtin.copy_ #[26, 26] ty #[.slice (some ⟨g, i * 2, none⟩) (n + 1 - i) dc, .slice (some ⟨vb, 0, none⟩) 1 vc]).run Try.prog (w.drew.setCells g ((i + 1) * 2) (inner.drop (i * 2))) = .ok (goInt (Nat.min 1 (n + 1 - i))) ((w.drew.setCells g ((i + 1) * 2) (inner.drop (i * 2))).setCells g (i * 2) vs) := fun ty dc =>
    run_copy_k _ _ _ ty 35 g (i * 2) (n + 1 - i) dc ⟨vb, 0, none⟩ 1 vc vs 2 Try.underlying26 infoBS (by rw [hvl]; simp only [Nat.min_def]; split <;> omega)
      (fun j v hj => by rw [Addr.add_lit, cell_of hvd, Nat.zero_add]; exact hvs _ _ hj)
      (fun j hj => by rw [cell_of g1, Array.getElem?_eq_getElem (by omega)]; rfl) (fun j hj => froz_of g1 _) hvone
  generalize hW1 : w.drew.setCells g ((i + 1) * 2) (inner.drop (i * 2)) = W1 at hcp1 hcp2
  clear g1 g2 g3 hvd hgd hdl hcs hsize hone hvone hvs
  go_upto_region 15 with (simp only [hov])
  have mixed : Try.prog.follows Departure.mixedOrders = true := by kernel_rfl
  have kw1 : IntKind.i64.wrap ((i : Int) + 1) = (i : Int) + 1 := by rw [IntKind.wrap_i64]; unfold maxLen at hc63; omega
  have kb1 : (0 : Int) ≤ (i : Int) + 1 := by omega
  have kb2 : (i : Int) + 1 ≤ (n : Int) + 1 := by omega
  have ktn : ((i : Int) + 1).toNat = i + 1 := by omega
  have kb3 : ¬ (cap = i + 1) := by omega
  have kb4 : ¬ (cap = i) := by omega
  have kb5 : (i : Int) ≤ (n : Int) + 1 := by omega
  clear hov
  go_region_law_o (refine step_copy_runI rfl _ _ 26 26 rfl _ _ (by simp [Act.eval, Act.put]) (by simp [Act.eval, Act.put]) (hcp1 _ _ _) ?_)
  go_wp2_with (at_builtin; refine wpList_copy_runI _ rfl _ _ 26 26 rfl _ _ rfl rfl (hcp2 _ _) ?_)
  go_ret
  exact ⟨rfl, rfl⟩
set_option maxHeartbeats 4000000 in
set_option maxRecDepth 100000 in
theorem slIns_grow (w : World) (g cap n i vb vc : Nat) (cur cv ROW : Array Value) (inner vs : List Value) (G : Nat) (hi : i < n) (hnc : n ≤ cap) (hroom : cap < n + 1) (hn : n ≤ 1000000)
    (hg : w.heap[g]? = some (.cells cur 35 (0, 0))) (hs : cur.size = cap * 2) (hin : cur.toList.take (n * 2) = inner) (hil : inner.length = n * 2) (hone : ∀ v ∈ inner, v.oneCell' = true)
    (hv : w.heap[vb]? = some (.cells cv 35 (0, 0))) (hvs : ∀ (j : Nat) (v : Value), vs[j]? = some v → cv[j]? = some v) (hvl : vs.length = 2) (hvone : ∀ v ∈ vs, v.oneCell' = true)
    (hG : G = grownCap w (n + 1) cap 35) (hROW : ROW = (inner.take (i * 2)).toArray ++ Builtin.zeroCells (Value.agg #[.slice none 0 0, .slice none 0 0]).cells (n + 1 - i) ++ Builtin.zeroCells (Value.agg #[.slice none 0 0, .slice none 0 0]).cells (G - (n + 1))) :
    Calls Try.prog 30 #[.slice (some ⟨g, 0, none⟩) n cap, .int .i64 (i : Int), .slice (some ⟨vb, 0, none⟩) 1 vc] w fun e w' => e = .returned (.slice (some ⟨w.heap.size, 0, none⟩) (n + 1) G) ∧ w' = ((w.drew.alloc (.cells ROW 35)).setCells w.heap.size (i * 2) vs).drew.setCells w.heap.size ((i + 1) * 2) (inner.drop (i * 2)) := by
  have hz2 : ((i : Int) == (n : Int)) = false := by simp; omega
  have hw1 : wrap64 ((n : Int) + 1) = ((n + 1 : Nat) : Int) := by unfold wrap64; omega
  have hw3 : wrap64 ((n : Int) + 1 - (i : Int)) = ((n + 1 - i : Nat) : Int) := by unfold wrap64; omega
  have hb5 : decide ((cap : Int) < ((n + 1 : Nat) : Int)) = true := by simp; omega
  have hb6 : decide (((n + 1 : Nat) : Int) > (cap : Int)) = true := by simp; omega
  obtain ⟨info, hinfo, hinf2⟩ := Option.map_eq_some_iff.1 infoBR
  simp only [Prod.mk.injEq] at hinf2
  obtain ⟨hz0, hzs, hzb⟩ := hinf2
  have hcs : ∀ j v, inner[j]? = some v → cur[j]? = some v := fun j v hj => by
    rw [← hin, List.getElem?_take] at hj
    split at hj
    · rwa [Array.getElem?_toList] at hj
    · cases hj
  have hgd : w.drew.heap[g]? = some (.cells cur 35 (0, 0)) := hg
  have htl : (inner.take (i * 2)).length = i * 2 := by rw [List.length_take, hil]; omega
  have hold : (Builtin.firstCells info.size i (.slice (some ⟨g, 0, none⟩) i cap)).run Try.prog w.drew = .ok (inner.take (i * 2)).toArray w.drew := by
    rw [hzs]
    exact run_firstCells_some w.drew 2 i ⟨g, 0, none⟩ i cap (inner.take (i * 2)) htl (fun j v hj => by
      rw [Addr.add_lit, cell_of hgd, Nat.zero_add]
      rw [List.getElem?_take] at hj
      split at hj
      · exact hcs _ _ hj
      · cases hj)
  have hik : i + (n + 1 - i) = n + 1 := by omega
  have hrz : ∀ ty, (Builtin.append_ #[26, 3] ty #[.slice (some ⟨g, 0, none⟩) i cap, .int .i64 ((n : Int) + 1 - (i : Int))]).run Try.prog w = .ok (.slice (some ⟨w.heap.size, 0, none⟩) (n + 1) G) (w.drew.alloc (.cells ROW 35)) := fun ty => by
    have h := Lib.run_append_grow_zeros w 26 3 ty 35 info _ .i64 .i64 Try.underlying26 Try.underlying3 hinfo hz0 (some ⟨g, 0, none⟩) i cap (inner.take (i * 2)) hold (n + 1 - i) (by omega) (by omega) (by omega) (by omega) (by rw [hzb]; omega) (by rw [hzb, hik]; exact growslice_fits hroom (by omega))
    rw [hik, ← hG, ← hROW] at h
    rw [show (n : Int) + 1 - (i : Int) = ((n + 1 - i : Nat) : Int) from by omega]
    exact h
  have hGn : n + 1 ≤ G := by rw [hG]; exact grownCap_ge w _ _ _
  have hGm : G ≤ maxLen := by rw [hG]; exact grownCap_le_maxLen w (n + 1) cap 35 (by unfold maxLen; omega)
  have hRs : ROW.size = G * 2 := by
    rw [hROW]
    simp [Builtin.zeroCells, Value.cells, htl]
    omega
  obtain ⟨W1, hW1⟩ : ∃ W1, W1 = w.drew.alloc (.cells ROW 35) := ⟨_, rfl⟩
  obtain ⟨N0, hN0⟩ : ∃ N0, N0 = w.heap.size := ⟨_, rfl⟩
  have k1 : W1.heap[N0]? = some (.cells ROW 35 (0, 0)) := by rw [hW1, hN0]; show (w.heap.push _)[w.heap.size]? = some _; simp
  have hlt : ∀ k o, w.heap[k]? = some o → W1.heap[k]? = some o ∧ k ≠ N0 := fun k o h => by
    have hk : k < w.heap.size := by
      rcases Nat.lt_or_ge k w.heap.size with q | q
      · exact q
      · rw [Array.getElem?_eq_none q] at h; cases h
    refine ⟨?_, by omega⟩
    rw [hW1]
    show (w.heap.push _)[k]? = _
    rw [Array.getElem?_push_lt hk, ← Array.getElem?_eq_getElem hk]
    exact h
  obtain ⟨k2, hgN⟩ := hlt g _ hg
  obtain ⟨k3, hvN⟩ := hlt vb _ hv
  have hcpA : ∀ (W : World), (∀ k, W.heap[k]? = W1.heap[k]?) → ∀ ty dc, (Builtin.copy_ #[26, 26] ty #[.slice (some ⟨N0, i * 2, none⟩) (n + 1 - i) dc, .slice (some ⟨vb, 0, none⟩) 1 vc]).run Try.prog W = .ok (goInt (Nat.min 1 (n + 1 - i))) (W.setCells N0 (i * 2) vs) := fun W hW ty dc =>
    run_copy_k W _ _ ty 35 N0 (i * 2) (n + 1 - i) dc ⟨vb, 0, none⟩ 1 vc vs 2 Try.underlying26 infoBS (by rw [hvl]; simp only [Nat.min_def]; split <;> omega)
      (fun j v hj => by rw [Addr.add_lit, cell_of ((hW vb).trans k3), Nat.zero_add]; exact hvs _ _ hj)
      (fun j hj => by rw [cell_of ((hW N0).trans k1), Array.getElem?_eq_getElem (by omega)]; rfl) (fun j hj => froz_of ((hW N0).trans k1) _) hvone
  obtain ⟨cur2, m1, m2, m3⟩ := setCells_row vs (i * 2) W1 ROW k1 (by omega)
  have m4 : (W1.setCells N0 (i * 2) vs).heap[g]? = some (.cells cur 35 (0, 0)) := (setCells_far _ _ g hgN).trans k2
  have hdl : (inner.drop (i * 2)).length = (n - i) * 2 := by rw [List.length_drop, hil]; omega
  have hcpB : ∀ (W : World), (∀ k, W.heap[k]? = (W1.setCells N0 (i * 2) vs).heap[k]?) → ∀ ty dc sc, (Builtin.copy_ #[26, 26] ty #[.slice (some ⟨N0, (i + 1) * 2, none⟩) (n - i) dc, .slice (some ⟨g, i * 2, none⟩) (n - i) sc]).run Try.prog W = .ok (goInt (Nat.min (n - i) (n - i))) (W.setCells N0 ((i + 1) * 2) (inner.drop (i * 2))) := fun W hW ty dc sc =>
    run_copy_k W _ _ ty 35 N0 ((i + 1) * 2) (n - i) dc ⟨g, i * 2, none⟩ (n - i) sc (inner.drop (i * 2)) 2 Try.underlying26 infoBS (by rw [hdl]; congr 1; simp only [Nat.min_def]; split <;> omega)
      (fun j v hj => by rw [Addr.add_lit, cell_of ((hW g).trans m4)]; exact hcs _ _ (by rwa [List.getElem?_drop] at hj))
      (fun j hj => by rw [cell_of ((hW N0).trans m1), Array.getElem?_eq_getElem (by omega)]; rfl) (fun j hj => froz_of ((hW N0).trans m1) _) (fun v hv => hone v (List.mem_of_mem_drop hv))
  have kw1 : IntKind.i64.wrap ((i : Int) + 1) = (i : Int) + 1 := by rw [IntKind.wrap_i64]; omega
  have kb1 : (0 : Int) ≤ (i : Int) + 1 := by omega
  have kb2 : (i : Int) + 1 ≤ (n : Int) + 1 := by omega
  have ktn : ((i : Int) + 1).toNat = i + 1 := by omega
  have kb3 : ¬ (cap = i + 1) ∨ cap = i + 1 := by omega
  have kb4 : ¬ (cap = i) := by omega
  have kb5 : (i : Int) ≤ (n : Int) + 1 := by omega
  have kb6 : ¬ (G = i) := by omega
  have kb7 : ¬ (G = i + 1) := by omega
  have kb8 : (i : Int) ≤ (n : Int) := by omega
  have mixed : Try.prog.follows Departure.mixedOrders = true := by kernel_rfl
  subst hW1 hN0
  have hcpA' := hcpA (w.alloc (.cells ROW 35)).drew (fun _ => rfl)
  have hcpB' := hcpB ((w.alloc (.cells ROW 35)).drew.setCells w.heap.size (i * 2) vs).drew (fun _ => rfl)
  clear hcpA hcpB
  clear hold hcs hgd htl hROW hRs k1 hlt k2 k3 m1 m2 m3 m4 hdl hone hvone hvs hG hin hil kb3
  go_enter Try.func30, Try.ntmps30
  go_upto_region 10 with ((with_reducible refine gate_builtin (b := .append) (xs := #[.tmp 34, .tmp 39]) rfl ?_); at_builtin; refine Lib.wpList_append_run _ rfl _ _ _ _ rfl _ _ rfl rfl _ _ (hrz _) ?_)
  go_upto_region 11 with (at_builtin; refine wpList_copy_runI _ rfl _ _ 26 26 rfl _ _ rfl rfl (hcpA' _ _) ?_)
  go_region_law_o (refine step_copy_runI rfl _ _ 26 26 rfl _ _ (by simp [Act.eval, Act.put]) (by simp [Act.eval, Act.put]) (hcpB' _ _ _) ?_)
  go_wp2
  go_ret
  exact ⟨rfl, rfl⟩
set_option maxHeartbeats 4000000 in
set_option maxRecDepth 100000 in
theorem slIns_end (w : World) (base : Nat) (ok okv : Nat → Prop) (A : Option Addr) (c : Nat) (L : List (List Int × List Int)) (AV : Option Addr) (vc : Nat) (x : List Int × List Int) (HN : Aside0 (Kd.N brK 35 w base ok (.slice A L.length c) L)) (HF : Aside0 (Kd.F brK w okv AV 1 [x])) (hok : ∀ k, okv k → ok k ∧ some k ≠ (Value.slice A L.length c).ownBlock) (hfresh : ∀ k, w.heap.size ≤ k → ok k) (hb : base ≤ w.heap.size) (HL : Aside0 (L.length ≤ 1000000)) :
    Calls Try.prog 30 #[.slice A L.length c, .int .i64 (L.length : Int), .slice AV 1 vc] w fun e w' => ∃ v', e = .returned v' ∧ Kd.N brK 35 w' base ok v' (L ++ [x]) ∧ Below base w w' := by
  go_enter Try.func30, Try.ntmps30
  go_wp2_with ((with_reducible refine gate_builtin (b := .append) (xs := #[.tmp 23, .tmp 24]) rfl ?_); at_builtin; refine Kd.N_append_rows brK (w0 := w) base rfl (.tmp 23) (.tmp 24) 26 35 (.agg #[.slice none 0 0, .slice none 0 0]) 48 rfl Try.underlying26 infoBR rfl (show 0 < 2 by decide) (by decide) (.slice A L.length c) L [x] AV 1 vc ok okv rfl rfl HN.out HF.out hok hfresh (Below.refl base w) hb (by have := HL.out; omega) ?_; intro v1 w1 hN1 hb1 _ _; have HN1 := Aside0.mk hN1; have HB1 := Aside0.mk hb1; clear hN1 hb1)
  all_goals (go_ret; exact ⟨_, rfl, HN1.out, HB1.out⟩)
theorem slIns_calls {w : World} {base baseV : Nat} {ok okv : Nat → Prop} {A : Option Addr} {c : Nat} {L : List (List Int × List Int)} (hN : Kd.N brK 35 w base ok (.slice A L.length c) L) (i : Nat) (hi : i ≤ L.length) {AV : Option Addr} {vc : Nat} {x : List Int × List Int} (hV : Kd.N brK 35 w baseV okv (.slice AV 1 vc) [x])
    (hok : ∀ k, okv k → ok k ∧ some k ≠ (Value.slice A L.length c).ownBlock) (hfresh : ∀ k, w.heap.size ≤ k → ok k) (hb : base ≤ w.heap.size) (hL : L.length ≤ 1000000) :
    Calls Try.prog 30 #[.slice A L.length c, .int .i64 (i : Int), .slice AV 1 vc] w fun e w' => ∃ v', e = .returned v' ∧ Kd.N brK 35 w' base ok v' (L.take i ++ [x] ++ L.drop i) ∧ Below base w w' := by
  by_cases he : i = L.length
  · subst he
    rw [List.take_length, List.drop_length, List.append_nil]
    exact slIns_end w base ok okv A c L AV vc x ⟨hN⟩ ⟨Kd.N_F hV⟩ hok hfresh hb ⟨hL⟩
  · have hil : i < L.length := by omega
    obtain ⟨inner, ⟨hin0, ho⟩, hf⟩ := N_inner hN
    obtain ⟨innv, ⟨hv0, hov⟩, hfv⟩ := N_inner hV
    rcases ho with ⟨-, h0⟩ | ⟨g, cap, cur, e1, hbg, hg, hnc, hcm, hs, hin⟩
    · omega
    rcases hov with ⟨-, h0⟩ | ⟨vb, vcap, cv, e2, hbv, hv, hvc, hvm, hvs, hvin⟩
    · simp at h0
    injection e1 with e1 _ e3
    injection e2 with e2 _ e4
    subst e1 e2 e3 e4
    have hob : (Value.slice (some ⟨g, 0, none⟩) L.length c).ownBlock = some g := rfl
    have hokg : ok g := hN.1 g rfl
    have hvb := hok vb (hV.1 vb rfl)
    have hvne : vb ≠ g := fun e => hvb.2 (by rw [hob, e])
    have hvl : innv.length = 2 := hv0
    have hx := hfv 0 x rfl
    rw [Nat.zero_mul, List.drop_zero, List.take_of_length_le (by omega)] at hx
    have hone : ∀ v ∈ inner, v.oneCell' = true := fun v hv_ => by
      obtain ⟨j, hj, rfl⟩ := List.getElem_of_mem hv_
      have hjl : j / 2 < L.length := by omega
      have := hf (j / 2) _ (List.getElem?_eq_getElem hjl)
      refine brK.K_one (Kd.FK_now this) _ ?_
      refine List.mem_of_getElem? (i := j % 2) ?_
      rw [List.getElem?_take, if_pos (Nat.mod_lt _ (by decide)), List.getElem?_drop, show j / 2 * 2 + j % 2 = j by omega]
      exact List.getElem?_eq_getElem hj
    have hvone : ∀ v ∈ innv, v.oneCell' = true := fun v hv_ => brK.K_one (Kd.FK_now hx) _ hv_
    have hvcs : ∀ (j : Nat) (v : Value), innv[j]? = some v → cv[j]? = some v := fun j v hj => by
      rw [← hvin, List.getElem?_take] at hj
      split at hj
      · rwa [Array.getElem?_toList] at hj
      · cases hj
    have hglt : g < w.heap.size := WorkIs.heap_lt' hg
    have hwl : (inner.drop (i * 2)).length = (L.length - i) * 2 := by rw [List.length_drop, hin0]; omega
    have hcl : cur.toList.length = c * 2 := by rw [Array.length_toList, hs]
    have htk : cur.toList.take (i * 2) = inner.take (i * 2) := by rw [← hin, List.take_take]; congr 1; omega
    have hmo : ∀ k, (ok k ∧ some k ≠ (Value.slice (some ⟨g, 0, none⟩) L.length c).ownBlock) → ok k ∧ k ≠ g := fun k hk => ⟨hk.1, fun e => hk.2 (by rw [hob, e])⟩
    by_cases hroom : L.length + 1 ≤ c
    · refine (slIns_room w g c L.length i vb vc cur cv inner innv hil hroom hcm hvne hg hs hin hin0 hone hv hvcs hvl hvone).mono ?_
      rintro e w' ⟨rfl, rfl⟩
      obtain ⟨cur1, a1, a2, a3⟩ := setCells_row (inner.drop (i * 2)) ((i + 1) * 2) w.drew cur hg (by omega)
      obtain ⟨cur2, b1, b2, b3⟩ := setCells_row innv (i * 2) _ cur1 a1 (by omega)
      have hmv : ∀ k, (ok k ∧ k ≠ g) → ((w.drew.setCells g ((i + 1) * 2) (inner.drop (i * 2))).setCells g (i * 2) innv).heap[k]? = w.heap[k]? := fun k hk => (setCells_far _ _ k hk.2).trans (setCells_far (w := w.drew) _ _ k hk.2)
      refine ⟨_, rfl, N_lay (inner := inner) (vs := innv) (cur := cur2) hin0 (by omega) (fun j y hj => Kd.FK_step (Kd.FK_mono (hf j y hj) hmo) (fun k hk _ => hmv k hk)) (Kd.FK_step (Kd.FK_mono hx (fun k hk => hmo k (hok k hk.1))) (fun k hk _ => hmv k hk)) hokg hbg b1 hroom hcm (by omega) ?_, (below_drew (Below.refl base w)).trans ((below_sets hbg _ _ _).trans (below_sets hbg _ _ _))⟩
      have e := set_room (l := cur.toList) (ws := inner.drop (i * 2)) (vs := innv) (o := i * 2) hvl (by omega)
      rw [b3, a3, show (i + 1) * 2 = i * 2 + 2 by omega, show (L.length + 1) * 2 = i * 2 + 2 + (inner.drop (i * 2)).length by omega, e, htk]
    · obtain ⟨G, hG⟩ : ∃ G, G = grownCap w (L.length + 1) c 35 := ⟨_, rfl⟩
      obtain ⟨ROW, hROW⟩ : ∃ ROW : Array Value, ROW = (inner.take (i * 2)).toArray ++ Builtin.zeroCells (Value.agg #[.slice none 0 0, .slice none 0 0]).cells (L.length + 1 - i) ++ Builtin.zeroCells (Value.agg #[.slice none 0 0, .slice none 0 0]).cells (G - (L.length + 1)) := ⟨_, rfl⟩
      refine (slIns_grow w g c L.length i vb vc cur cv ROW inner innv G hil hnc (by omega) hL hg hs hin hin0 hone hv hvcs hvl hvone hG hROW).mono ?_
      rintro e w' ⟨rfl, rfl⟩
      have hGn : L.length + 1 ≤ G := by rw [hG]; exact grownCap_ge w _ _ _
      have hGm : G ≤ maxLen := by rw [hG]; exact grownCap_le_maxLen w (L.length + 1) c 35 (by unfold maxLen at *; omega)
      have htl : (inner.take (i * 2)).length = i * 2 := by rw [List.length_take, hin0]; omega
      have hRs : ROW.size = G * 2 := by
        rw [hROW]
        simp [Builtin.zeroCells, Value.cells, htl]
        omega
      have hRl : ROW.toList.take (i * 2) = inner.take (i * 2) := by
        rw [hROW]
        simp only [Array.toList_append, List.append_assoc]
        rw [List.take_append_of_le_length (by omega), List.take_of_length_le (by omega)]
      have k1 : (w.drew.alloc (.cells ROW 35)).heap[w.heap.size]? = some (.cells ROW 35 (0, 0)) := by show (w.heap.push _)[w.heap.size]? = some _; simp
      obtain ⟨cur1, a1, a2, a3⟩ := setCells_row innv (i * 2) _ ROW k1 (by omega)
      obtain ⟨cur2, b1, b2, b3⟩ := setCells_row (inner.drop (i * 2)) ((i + 1) * 2) ((w.drew.alloc (.cells ROW 35)).setCells w.heap.size (i * 2) innv).drew cur1 a1 (by omega)
      have hal : Below w.heap.size w (w.drew.alloc (.cells ROW 35)) := below_alloc (below_drew (Below.refl _ _)) _
      have hB : Below w.heap.size w (((w.drew.alloc (.cells ROW 35)).setCells w.heap.size (i * 2) innv).drew.setCells w.heap.size ((i + 1) * 2) (inner.drop (i * 2))) := hal.trans ((below_drew (below_sets (Nat.le_refl _) _ _ _)).trans (below_sets (Nat.le_refl _) _ _ _))
      have hmb : ∀ (y : List Int × List Int) (cs : List Value) (ok2 : Nat → Prop), (∀ k, ok2 k → ok k) → Kd.FK brK w ok2 y cs → Kd.FK brK (((w.drew.alloc (.cells ROW 35)).setCells w.heap.size (i * 2) innv).drew.setCells w.heap.size ((i + 1) * 2) (inner.drop (i * 2))) (fun k => ok k ∧ k ≠ w.heap.size) y cs := fun y cs ok2 h2 h => Kd.FK_mono (Kd.FK_below (Kd.FK_bound h) hB) (fun k hk => ⟨h2 k hk.1, Nat.ne_of_lt hk.2⟩)
      refine ⟨_, rfl, N_lay (inner := inner) (vs := innv) (cur := cur2) hin0 (by omega) (fun j y hj => hmb y _ _ (fun k hk => hk.1) (hf j y hj)) (hmb x _ _ (fun k hk => (hok k hk.1).1) hx) (hfresh _ (Nat.le_refl _)) hb b1 hGn hGm (by omega) ?_, hB.mono hb⟩
      have e := set_grow (l := ROW.toList) (ws := inner.drop (i * 2)) (vs := innv) (o := i * 2) hvl (by rw [Array.length_toList]; omega)
      rw [b3, a3, show (i + 1) * 2 = i * 2 + 2 by omega, show (L.length + 1) * 2 = i * 2 + 2 + (inner.drop (i * 2)).length by omega, e, hRl]
end Go.Proofs.Ytpfaaljmefgpbaa.Hand
end
