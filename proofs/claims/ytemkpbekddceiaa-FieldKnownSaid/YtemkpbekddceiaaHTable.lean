/- The walks of field.made and field.known: the Go code makes the table of the powers of 3 and their exponents. -/
import Derived.Test.YtemkpbekddceiaaHBase
set_option linter.unusedVariables false
set_option linter.unusedSimpArgs false
namespace Go.Proofs.Ytemkpbekddceiaa.Hand
open Go.RowKit Go.Proofs.YtemkpbekddceiaaW.PrintWords Go.Proofs.YtemkpbekddceiaaW.PrintLast Go.Proofs.YtemkpbekddceiaaW.PrintMore
/-- three times an element -/
def t3 (a : Int) : Int := if a ≥ 128 then Go.bits .xor .u8 (Go.bits .xor .u8 ((a * 2) % 256) 27) a else Go.bits .xor .u8 ((a * 2) % 256) a
/-- the powers -/
def pw : Nat → Int | 0 => 1 | n + 1 => t3 (pw n)
/-- the last number below n whose power is a -/
def lg : Nat → Int → Int | 0, _ => 0 | n + 1, a => if pw n = a then n else lg n a
set_option maxRecDepth 100000 in
theorem times3_calls (a : Int) (w : World) : Calls Try.prog 27 #[.int .u8 a] w fun e w' => e = .returned (.int .u8 (t3 a)) ∧ Drawn0 w w' := by
  by_cases c : a ≥ 128
  · have e : t3 a = Go.bits .xor .u8 (Go.bits .xor .u8 ((a * 2) % 256) 27) a := by unfold t3; rw [if_pos c]
    rw [e]
    have c0 : decide (128 ≤ a) = true := decide_eq_true c
    clear c e
    go_enter Try.func27, Try.ntmps27
    go_wp2
    go_ret
    exact ⟨by first | rfl | (simp; done), Drawn0.refl _⟩
  · have e : t3 a = Go.bits .xor .u8 ((a * 2) % 256) a := by unfold t3; rw [if_neg c]
    rw [e]
    have c0 : decide (128 ≤ a) = false := decide_eq_false c
    clear c e
    go_enter Try.func27, Try.ntmps27
    go_wp2
    go_ret
    exact ⟨by first | rfl | (simp; done), Drawn0.refl _⟩
/-- the cells of the table behind n rounds -/
def cellF (n i : Nat) : Value := if i < 510 then .int .u8 (if i % 255 < n then pw (i % 255) else 0) else .int .i64 (lg n ((i : Int) - 510))
def cellsAt (n : Nat) : Array Value := Array.ofFn (n := 766) fun i => cellF n i.val
theorem cellsAt_size (n : Nat) : (cellsAt n).size = 766 := by simp [cellsAt]
theorem cellsAt_get (n i : Nat) (h : i < 766) : (cellsAt n)[i]? = some (cellF n i) := by
  simp [cellsAt, h]
theorem pw_range (n : Nat) : 0 ≤ pw n ∧ pw n < 256 := by
  cases n with
  | zero => decide
  | succ n =>
    show 0 ≤ t3 _ ∧ t3 _ < 256
    unfold t3
    split <;> (unfold Go.bits; simp only [IntKind.wrap_u8]; omega)
theorem cellsAt_zero : (Try.prog.info? 52).map (fun i => i.zero) = some (some (.agg (cellsAt 0))) := by kernel_rfl

theorem cellF_one (n i : Nat) : (cellF n i).oneCell' = true := by unfold cellF; split <;> rfl
/-- one round -/
theorem cellsAt_succ (n : Nat) (hn : n < 255) :
    (((cellsAt n).setIfInBounds n (.int .u8 (pw n))).setIfInBounds (n + 255) (.int .u8 (pw n))).setIfInBounds (510 + (pw n).toNat) (.int .i64 n) = cellsAt (n + 1) := by
  have hp := pw_range n
  refine Array.ext_getElem? fun i => ?_
  by_cases h2 : i < 766
  · have e : ∀ m, (cellsAt m)[i]? = some (cellF m i) := fun m => cellsAt_get m i h2
    simp only [Array.getElem?_setIfInBounds, Array.size_setIfInBounds, cellsAt_size, e]
    unfold cellF
    by_cases c : i < 510
    · rw [if_neg (by omega), if_pos c, if_pos c]
      by_cases c1 : i = n + 255
      · subst c1; rw [if_pos rfl, if_pos (by omega), show (n + 255) % 255 = n from by omega, if_pos (by omega)]
      · rw [if_neg (fun h => c1 h.symm)]
        by_cases c2 : i = n
        · subst c2; rw [if_pos rfl, if_pos (by omega), show i % 255 = i from by omega, if_pos (by omega)]
        · rw [if_neg (fun h => c2 h.symm)]
          have : i % 255 ≠ n := by omega
          by_cases c3 : i % 255 < n
          · rw [if_pos c3, if_pos (by omega)]
          · rw [if_neg c3, if_neg (by omega)]
    · rw [if_neg c, if_neg c]
      simp only [lg]
      by_cases c1 : 510 + (pw n).toNat = i
      · rw [if_pos c1, if_pos (by omega), if_pos (by omega)]
      · rw [if_neg c1, if_neg (by omega), if_neg (by omega), if_neg (by omega)]
  · rw [Array.getElem?_eq_none (by simp [cellsAt_size]; omega), Array.getElem?_eq_none (by simp [cellsAt_size]; omega)]

section
variable {P : Program} {ops : Array Oper} {rest : List Oper} {o : Oper} {a : Act} {Q : Exit → Act → World → Prop}
/-- a store of one number into a block that is known whole, above B -/
theorem store_blk {w0 W : World} (hgd : o.guard = none) (hN : o.dst = none) (t : TypeId) (p x : Operand) (ho : o.op = .store t p x) (g i : Nat) (cs : Array Value) (T : TypeId) (k : IntKind) (z : Int)
    (hp : a.eval p = .pointer (some ⟨g, i, none⟩)) (hv : a.eval x = .int k z) (hs : (P.info? t).map (·.size) = some 1)
    (hg : W.heap[g]? = some (.cells cs T (0, 0))) (hi : i < cs.size) (B : Nat) (hB : Below B w0 W) (hge : B ≤ g)
    (h : ∀ W', W'.heap[g]? = some (.cells (cs.setIfInBounds i (.int k z)) T (0, 0)) → Below B w0 W' → W'.heap.size = W.heap.size → wpList P ops Q rest a W') : wpList P ops Q (o :: rest) a W := by
  refine wpList_plain hgd fun K hK => ?_
  have hcell : W.cell? ⟨g, i, none⟩ = some cs[i] := by rw [cell_of_row W g i cs T (0, 0) hg]; simp [hi]
  have hfr : W.frozen? ⟨g, i, none⟩ = false := frozen_of_row W g i cs T hg
  have hrun : (Instr.storeAt t (.pointer (some ⟨g, i, none⟩)) (.int k z)).run P W = .ok () (W.setCell ⟨g, i, none⟩ (.int k z)) := by
    have := run_storeCells_cells (P := P) g i [.int k z] 0 W (fun j hj => by obtain rfl : j = 0 := by simpa using hj
                                                                             simp [hcell]) (fun j hj => by obtain rfl : j = 0 := by simpa using hj
                                                                                                           simpa using hfr) (fun u hu => by simp only [List.mem_singleton] at hu; subst hu; rfl)
    cases hq : P.info? t with
    | none => simp [hq] at hs
    | some y =>
      have hz : y.size = 1 := by simpa [hq] using hs
      simp only [Nat.add_zero] at this
      simp only [Instr.storeAt, Instr.sureAddr, Sem.run_bind, Sem.run_pure, Result.andThen_ok]
      simp [storeVar, sizeOf, typeInfo, hq, Value.cells, hz, this, World.setCells]
  have e : a.put o.dst undef = a := by rw [hN]; rfl
  unfold Oper.wp execOp
  simp only [ho, hp, hv, Sem.run_bind, hrun, Result.andThen_ok]
  refine hK _ _ ?_
  rw [e]
  exact h _ (heap_setCell_same W g i cs T _ hg) (hB.setCell hge _) (by simp [World.setCell])
/-- a new variable of many cells -/
theorem alloc_blk {W : World} (hgd : o.guard = none) (t : TypeId) (ho : o.op = .alloc t) (cs : Array Value) (hz : (P.info? t).map (fun i => i.zero) = some (some (.agg cs)))
    (h : wpList P ops Q rest (a.put o.dst (.pointer (some ⟨W.heap.size, 0, none⟩))) (W.alloc (.cells cs t))) : wpList P ops Q (o :: rest) a W := by
  refine Go.Great.wpList_allocTo hgd o.dst rfl (.pointer (some ⟨W.heap.size, 0, none⟩)) (.cells cs t) ?_ h
  cases hq : P.info? t with
  | none => simp [hq] at hz
  | some y =>
    have hz2 : y.zero = some (.agg cs) := by simpa [hq] using hz
    unfold execOp
    simp [ho, Instr.alloc, zeroValue, typeInfo, hq, hz2, newVar, newRow, Value.cells]
end
theorem cellsAt_all (n : Nat) : (cellsAt n).all (·.oneCell') = true := by
  rw [Array.all_eq_true]
  intro i h
  simp [cellsAt, cellF_one]
/-- the table, built -/
@[irreducible] def tbl : Array Value := cellsAt 255
theorem tbl_eq : tbl = cellsAt 255 := by unfold tbl; rfl
theorem tbl_size : tbl.size = 766 := by rw [tbl_eq, cellsAt_size]
theorem tbl_all : tbl.all (·.oneCell') = true := by rw [tbl_eq]; exact cellsAt_all _
/-- what holds at the label: n rounds are done -/
def Made (w : World) (a : Act) (W : World) : Prop :=
  ∃ (n : Nat) (u3 u4 u5 u6 u7 u8 u9 u10 u11 u12 u13 u14 u15 u16 u17 u18 u19 u20 u21 u22 : Value), n < 255 ∧
    a = { tmps := #[.pointer (some ⟨w.heap.size, 0, none⟩), .int .i64 n, .int .u8 (pw n), u3, u4, u5, u6, u7, u8, u9, u10, u11, u12, u13, u14, u15, u16, u17, u18, u19, u20, u21, u22], defers := [] } ∧
    W.heap[w.heap.size]? = some (.cells (cellsAt n) 52 (0, 0)) ∧ Below w.heap.size w W
set_option maxHeartbeats 1000000 in
set_option maxRecDepth 100000 in
theorem made_calls (w : World) : Calls Try.prog 26 #[] w fun e w' => e = .returned (.agg tbl) ∧ Below w.heap.size w w' := by
  obtain ⟨C0, hC0⟩ : ∃ C, C = cellsAt 0 := ⟨_, rfl⟩
  go_enter Try.func26, Try.ntmps26
  go_wp2_with (refine alloc_blk rfl 52 rfl C0 (by rw [hC0]; exact cellsAt_zero) ?_)
  have hg0 : (w.alloc (.cells C0 52)).heap[w.heap.size]? = some (.cells (cellsAt 0) 52 (0, 0)) := by rw [heap_alloc_new, hC0]
  have hb0 : Below w.heap.size w (w.alloc (.cells C0 52)) := (Below.refl _ _).alloc (Nat.le_refl _) _
  generalize w.alloc (.cells C0 52) = W0 at hg0 hb0 ⊢
  refine wp_scope_jumps 0 (Made w) (fun a' _ => 255 - (intOf (a'.tmps.getD 1 undef)).toNat) rfl ?_ ?_
  · have Hs := Aside0.mk (cellsAt_succ 0 (by omega))
    clear hC0
    go_wp2_with fail
    go_step3
    go_wp2_with (first
      | (refine store_blk rfl rfl 5 (Operand.tmp 9) (Operand.tmp 6) rfl w.heap.size 0 (cellsAt 0) 52 .u8 1 rfl rfl (by kernel_rfl) hg0 (by rw [cellsAt_size]; omega) w.heap.size hb0 (Nat.le_refl _) ?_; clear hg0 hb0; intro W1 hg1 hb1 _)
      | (refine store_blk rfl rfl 5 (Operand.tmp 11) (Operand.tmp 7) rfl w.heap.size 255 _ 52 .u8 1 rfl rfl (by kernel_rfl) hg1 (by simp only [Array.size_setIfInBounds, cellsAt_size]; omega) w.heap.size hb1 (Nat.le_refl _) ?_; clear hg1 hb1; intro W2 hg2 hb2 _)
      | (refine store_blk rfl rfl 3 (Operand.tmp 15) (Operand.tmp 13) rfl w.heap.size 511 _ 52 .i64 0 rfl rfl (by kernel_rfl) hg2 (by simp only [Array.size_setIfInBounds, cellsAt_size]; omega) w.heap.size hb2 (Nat.le_refl _) ?_; clear hg2 hb2; intro W3 hg3 hb3 _)
      | (go_at_call 27; refine (times3_calls 1 _).mono ?_; rintro e w' ⟨rfl, ⟨nd, rfl⟩⟩))
    go_step3
    refine ⟨rfl, 1, _, _, _, _, _, _, _, _, _, _, _, _, _, _, _, _, _, _, _, _, by omega, rfl, ?_, pw_below_drewN hb3 nd⟩
    rw [← Hs.out]; exact hg3
  · rintro a' W ⟨n, u3, u4, u5, u6, u7, u8, u9, u10, u11, u12, u13, u14, u15, u16, u17, u18, u19, u20, u21, u22, hn, rfl, hg, hb⟩
    have hp := pw_range n
    have hw : ((n : Int) + 255).toNat = n + 255 := by omega
    have Hs := Aside0.mk (cellsAt_succ n hn)
    go_wp2_with (first
      | (refine store_blk rfl rfl 5 (Operand.tmp 9) (Operand.tmp 6) rfl w.heap.size n (cellsAt n) 52 .u8 (pw n) rfl rfl (by kernel_rfl) hg (by rw [cellsAt_size]; omega) w.heap.size hb (Nat.le_refl _) ?_; clear hg hb; intro W1 hg1 hb1 _)
      | (refine store_blk rfl rfl 5 (Operand.tmp 11) (Operand.tmp 7) rfl w.heap.size (n + 255) _ 52 .u8 (pw n) rfl rfl (by kernel_rfl) hg1 (by simp only [Array.size_setIfInBounds, cellsAt_size]; omega) w.heap.size hb1 (Nat.le_refl _) ?_; clear hg1 hb1; intro W2 hg2 hb2 _)
      | (refine store_blk rfl rfl 3 (Operand.tmp 15) (Operand.tmp 13) rfl w.heap.size (510 + (pw n).toNat) _ 52 .i64 n rfl rfl (by kernel_rfl) hg2 (by simp only [Array.size_setIfInBounds, cellsAt_size]; omega) w.heap.size hb2 (Nat.le_refl _) ?_; clear hg2 hb2; intro W3 hg3 hb3 _)
      | (go_at_call 27; refine (times3_calls (pw n) _).mono ?_; rintro e w' ⟨rfl, ⟨nd, rfl⟩⟩)
      | (refine wpList_load_row rfl 52 (Operand.tmp 0) rfl w.heap.size rfl 52 (cellsAt (n + 1)) (0, 0) _ (by rw [← Hs.out]; exact hg3) Try.underlying52 rfl (by rw [cellsAt_size]; kernel_rfl) ?_)
      | (refine wpList_store_row rfl 52 (Operand.tmp 0) (Operand.tmp 22) rfl w.heap.size (cellsAt (n + 1)) rfl rfl 52 (cellsAt (n + 1)) (by rw [← Hs.out]; exact hg3) (by rw [cellsAt_size]; kernel_rfl) rfl (cellsAt_all _) ?_))
    · go_step3
      have hlt : n + 1 < 255 := by
        have : (n : Int) + 1 < 255 := by assumption
        omega
      refine ⟨rfl, ⟨n + 1, _, _, _, _, _, _, _, _, _, _, _, _, _, _, _, _, _, _, _, _, hlt, rfl, ?_, pw_below_drewN hb3 nd⟩, by simp [intOf]; omega⟩
      rw [← Hs.out]; exact hg3
    · have hlt : n + 1 = 255 := by
        have : (255 : Int) ≤ (n : Int) + 1 := by assumption
        omega
      have hg4 : ((W3.drewN nd).setRow w.heap.size (cellsAt (n + 1))).heap[w.heap.size]? = some (.cells (cellsAt (n + 1)) 52 (0, 0)) := setRow_heap _ _ (cellsAt (n + 1)) _ _ _ (by rw [← Hs.out]; exact hg3)
      change bodyPost Try.prog Try.f26 (fun e w' => e = .returned (.agg tbl) ∧ Below w.heap.size w w') .ret _ _
      refine bodyPost_ret (v := .agg (cellsAt (n + 1))) (results_cell_row rfl _ _ w.heap.size 52 (cellsAt (n + 1)) (0, 0) _ rfl hg4 Try.underlying52 rfl (by rw [cellsAt_size]; kernel_rfl)) rfl ⟨by rw [hlt, tbl_eq], ?_⟩
      refine (pw_below_drewN hb3 nd).trans ⟨rfl, rfl, rfl, by simp, fun k hk => setRow_other _ _ _ _ (by omega)⟩
set_option maxRecDepth 100000 in
theorem known_calls (w : World) : Calls Try.prog 25 #[] w fun e w' => e = .returned (.agg tbl) ∧ Below w.heap.size w w' := by
  obtain ⟨C0, hC0⟩ : ∃ C, C = cellsAt 0 := ⟨_, rfl⟩
  have HC0 := Aside0.mk hC0
  clear hC0
  go_enter Try.func25, Try.ntmps25
  go_wp2_with (first
    | (refine alloc_blk rfl 52 rfl C0 (by rw [HC0.out]; exact cellsAt_zero) ?_)
    | (go_at_call 26; refine (made_calls _).mono ?_; rintro e w' ⟨rfl, hb⟩)
    | (refine wpList_store_row rfl 52 (Operand.tmp 0) (Operand.tmp 1) rfl w.heap.size tbl rfl rfl 52 C0 ((hb.block w.heap.size (by simp)).trans (heap_alloc_new _ _)) (by rw [tbl_size]; kernel_rfl) (by rw [HC0.out, cellsAt_size, tbl_size]) tbl_all ?_))
  have hg4 : (w'.setRow w.heap.size tbl).heap[w.heap.size]? = some (.cells tbl 52 (0, 0)) := setRow_heap _ _ C0 _ _ _ ((hb.block w.heap.size (by simp)).trans (heap_alloc_new _ _))
  refine bodyPost_ret (v := .agg tbl) (results_cell_row rfl _ _ w.heap.size 52 tbl (0, 0) _ rfl hg4 Try.underlying52 rfl (by rw [tbl_size]; kernel_rfl)) rfl ⟨rfl, ?_⟩
  have h1 : Below w.heap.size w w' := ((Below.refl _ _).alloc (Nat.le_refl _) _).trans (hb.mono (by simp))
  exact h1.trans ⟨rfl, rfl, rfl, by simp, fun k hk => setRow_other _ _ _ _ (by omega)⟩
/-- the two halves of the table -/
@[irreducible] def tblE : Array Value := tbl.extract 0 510
@[irreducible] def tblL : Array Value := tbl.extract 510 766
theorem size54 : (Try.prog.info? 49).map (fun i => i.size) = some 510 := by kernel_rfl
theorem size55 : (Try.prog.info? 50).map (fun i => i.size) = some 256 := by kernel_rfl
theorem size5 : (Try.prog.info? 5).map (fun i => i.size) = some 1 := by kernel_rfl
theorem size3 : (Try.prog.info? 3).map (fun i => i.size) = some 1 := by kernel_rfl
theorem run_isAgg_yes {P : Program} {t : TypeId} {n e : Nat} (h : P.underlying t = some (.array n e)) (w : World) : (isAgg t).run P w = .ok true w := by
  unfold isAgg; rw [Sem.run_bind, run_underlying h w]; rfl
theorem run_isAgg_int {P : Program} {t : TypeId} {k : IntKind} (h : P.underlying t = some (.int k)) (w : World) : (isAgg t).run P w = .ok false w := by
  unfold isAgg; rw [Sem.run_bind, run_underlying h w]; rfl
theorem run_sizeOf {P : Program} {t : TypeId} {n : Nat} (h : (P.info? t).map (fun i => i.size) = some n) (w : World) : (sizeOf t).run P w = .ok n w := by
  cases hq : P.info? t with
  | none => simp [hq] at h
  | some i =>
    have : i.size = n := by simpa [hq] using h
    simp [sizeOf, typeInfo, hq, this]
theorem run_part {P : Program} {t : TypeId} {n e m : Nat} (h : P.underlying t = some (.array n e)) (hs : (P.info? t).map (fun i => i.size) = some m) (cs : Array Value) (off : Nat) (w : World) :
    (part t cs off).run P w = .ok (.agg (cs.extract off (off + m))) w := by
  simp [part, Sem.run_bind, run_isAgg_yes h w, run_sizeOf hs w]
theorem run_part_one {P : Program} {t : TypeId} {k : IntKind} (h : P.underlying t = some (.int k)) (cs : Array Value) (off : Nat) (v : Value) (hv : cs[off]? = some v) (w : World) :
    (part t cs off).run P w = .ok v w := by
  simp [part, Sem.run_bind, run_isAgg_int h w, hv]
theorem run_exp (w : World) : (Instr.field 52 (.agg tbl) 0).run Try.prog w = .ok (.agg tblE) w := by
  have h : (Instr.field 52 (.agg tbl) 0).run Try.prog w = (part 49 tbl 0).run Try.prog w := by simp [Instr.field, asAgg]
  rw [h, run_part Try.underlying49 size54]
  unfold tblE; rfl
theorem run_log (w : World) : (Instr.field 52 (.agg tbl) 1).run Try.prog w = .ok (.agg tblL) w := by
  have h : (Instr.field 52 (.agg tbl) 1).run Try.prog w = (part 50 tbl 510).run Try.prog w := by simp [Instr.field, asAgg]
  rw [h, run_part Try.underlying50 size55]
  unfold tblL; rfl
theorem tblE_get (i : Nat) (h : i < 510) : tblE[i]? = some (.int .u8 (pw (i % 255))) := by
  unfold tblE
  rw [Array.getElem?_extract, if_pos (by rw [tbl_size]; omega), Nat.zero_add, tbl_eq, cellsAt_get _ _ (by omega)]
  unfold cellF
  rw [if_pos h, if_pos (by omega)]
theorem tblL_get (i : Nat) (h : i < 256) : tblL[i]? = some (.int .i64 (lg 255 i)) := by
  unfold tblL
  rw [Array.getElem?_extract, if_pos (by rw [tbl_size]; omega), tbl_eq, cellsAt_get _ _ (by omega)]
  unfold cellF
  rw [if_neg (by omega), show ((510 + i : Nat) : Int) - 510 = i from by omega]
theorem run_at_exp (i : Int) (h0 : 0 ≤ i) (h1 : i < 510) (w : World) : (Instr.index 49 (.agg tblE) (.int .i64 i)).run Try.prog w = .ok (.int .u8 (pw (i.toNat % 255))) w := by
  have hc : (0 ≤ i ∧ i < ((510 : Nat) : Int)) := ⟨h0, by omega⟩
  have h : (Instr.index 49 (.agg tblE) (.int .i64 i)).run Try.prog w = (part 5 tblE i.toNat).run Try.prog w := by
    simp only [Instr.index, asIntOf, Sem.run_bind, Sem.run_pure, Result.andThen_ok, run_underlying Try.underlying49 w, if_pos hc, run_sizeOf size5 w, Nat.mul_one]
  rw [h, run_part_one Try.underlying5 _ _ _ (tblE_get i.toNat (by omega))]
theorem run_at_log (i : Int) (h0 : 0 ≤ i) (h1 : i < 256) (w : World) : (Instr.index 50 (.agg tblL) (.int .u8 i)).run Try.prog w = .ok (.int .i64 (lg 255 i)) w := by
  have hc : (0 ≤ i ∧ i < ((256 : Nat) : Int)) := ⟨h0, by omega⟩
  have h : (Instr.index 50 (.agg tblL) (.int .u8 i)).run Try.prog w = (part 3 tblL i.toNat).run Try.prog w := by
    simp only [Instr.index, asIntOf, Sem.run_bind, Sem.run_pure, Result.andThen_ok, run_underlying Try.underlying50 w, if_pos hc, run_sizeOf size3 w, Nat.mul_one]
  rw [h, run_part_one Try.underlying3 _ _ _ (tblL_get i.toNat (by omega)), show ((i.toNat : Nat) : Int) = i from by omega]
theorem lg_range (n : Nat) : ∀ a, 0 ≤ lg n a ∧ lg n a < 255 ∨ 255 < n := by
  induction n with
  | zero => intro a; left; simp [lg]
  | succ n ih =>
    intro a
    by_cases hn : 255 < n + 1
    · right; exact hn
    · left
      simp only [lg]
      split
      · omega
      · rcases ih a with h | h
        · exact h
        · omega
theorem lg_lt (a : Int) : 0 ≤ lg 255 a ∧ lg 255 a < 255 := by
  rcases lg_range 255 a with h | h
  · exact h
  · omega
/-- the product by the table -/
def mulT (a b : Int) : Int := pw ((lg 255 a + lg 255 b).toNat % 255)
end Go.Proofs.Ytemkpbekddceiaa.Hand
