/- QTB, part 6: HBase HFun HTable GF HMath HField. -/
import Derived.Test.YtpfaaljmefgpbaaQTB1
import Derived.Test.YtpfaaljmefgpbaaQTB2
import Derived.Test.YtpfaaljmefgpbaaQTB3
import Derived.Test.YtpfaaljmefgpbaaQTB4
import Derived.Test.YtpfaaljmefgpbaaQTB5
import Derived.Test.YtpfaaljmefgpbaaProg
import Derived.Below
import Derived.Deep.Draws
import Derived.Deep.AppendLies
import Derived.Maps.AppendAt
import Derived.OwnWalk
import Derived.Laws.BytesArg
import Derived.Laws.MakeOwn
import Derived.Laws.OwnMore
import Derived.Deep.OwnRows
import Derived.Tactics
import Derived.Lib.ConvBytes
import Derived.Laws.Slices
import Derived.WalkKit
import Derived.KernelRfl
import Derived.RowKit3
import Derived.Deep.LoopGhost
import Derived.Deep.QuietTactic
import Derived.BigQuiet
import Derived.WideLaws
import Derived.Deep.DeepCutAuto
import Derived.Deep.CutBlock
import Derived.Deep.RegionHeld3
import Derived.Laws.Rows
import Derived.Lib.AppendStr
import Derived.ArgAppend
import Derived.Laws.IdiomCopy
import Derived.OrdersHeld
import Derived.Laws.BitsLemmas
import Derived.RowKit
import Derived.Great.Walk
import Derived.Deep.RegionWith

section

end

section
set_option linter.unusedVariables false
set_option linter.unusedSimpArgs false
namespace Go.Proofs.Ytpfaaljmefgpbaa.Hand
open Go.RowKit Go.Proofs.YtpfaaljmefgpbaaW.PrintWords Go.Proofs.YtpfaaljmefgpbaaW.PrintLast Go.Proofs.YtpfaaljmefgpbaaW.PrintMore
structure FnOk (P : Program) (g : FuncId) : Prop where
  ok : ∃ fn, P.funcs[g]? = some fn ∧ (fn.name == "runtime.NumGoroutine") = false ∧ fn.body.isSome = true
theorem FnOk.run {P : Program} {g : FuncId} (h : FnOk P g) (args : Array Value) (w : World) : (callFunc g args).run P w = .ok (.enter g args) w := by
  obtain ⟨fn, h1, h2, h3⟩ := h.ok
  exact enters_ h1 h2 h3 args w
theorem infoT5 : (Try.prog.info? 5).map (fun i => (i.zero, i.size, i.bytes)) = some (some (.int .u8 0), 1, 1) := by kernel_rfl
section
variable {P : Program} {ops : Array Oper} {Q : Exit → Act → World → Prop}
theorem fun_run {oi : Oper} {a : Act} {w : World} {g : FuncId} {ops_ : Array Operand} {ts : Array TypeId} (hf : FnOk P g) (x : Operand) (lb : Array Value) (hx : a.eval x = .func (.func g) #[] lb) (args : Array Value)
    (hop : oi.op = .call { callee := .value x, args := ops_, argTypes := ts }) (hargs : ops_.map a.eval = args) : (execOp a.eval oi).run P w = .ok (.enter g (args ++ lb)) w := by
  unfold execOp
  simp [hop, resolve, Deferred.ofValue, invoke, hx, hargs, hf.run]
theorem goesV_ {oi : Oper} {N : Option Tmp} {a : Act} {w : World} {K : Act → World → Prop} {g : FuncId} {ops_ : Array Operand} {ts : Array TypeId} (hf : FnOk P g) (x : Operand) (lb : Array Value) (hx : a.eval x = .func (.func g) #[] lb) (args : Array Value)
    (hw : Region.wanted oi (yielded ops a.tmps) = true) (hN : oi.dst = N) (hop : oi.op = .call { callee := .value x, args := ops_, argTypes := ts }) (hargs : ops_.map a.eval = args)
    (h : Calls P g (args ++ lb) w fun e w' => ∃ v, e = .returned v ∧ K (a.put N v) w') : if Region.wanted oi (yielded ops a.tmps) = true then Oper.wp P oi a w K Q else K (a.put N undef) w :=
  call_ g (args ++ lb) hw hN (fun_run hf x lb hx args hop hargs) h
theorem goesVL_ {rest : List Oper} {oi : Oper} {a : Act} {w : World} (N : Option Tmp) (hd : oi.dst = N) (hg : oi.guard = none) {g : FuncId} {ops_ : Array Operand} {ts : Array TypeId} (hf : FnOk P g) (x : Operand) (lb : Array Value) (hx : a.eval x = .func (.func g) #[] lb) (args : Array Value)
    (hop : oi.op = .call { callee := .value x, args := ops_, argTypes := ts }) (hargs : ops_.map a.eval = args)
    (h : Calls P g (args ++ lb) w fun e w' => ∃ v, e = .returned v ∧ wpList P ops Q rest (a.put N v) w') : wpList P ops Q (oi :: rest) a w := by
  refine wpList_plain hg fun K hK => ?_
  unfold Oper.wp
  rw [fun_run hf x lb hx args hop hargs, Oper.upon_enter]
  refine h.mono fun e w'' hh => ?_
  obtain ⟨v, rfl, hk⟩ := hh
  subst hd
  exact hK _ _ hk
end
theorem box_lower {w w1 w2 : World} {o : Obj} (hw : w1 = w.alloc o) (hb : Below w1.heap.size w1 w2) : Below w.heap.size w w2 := by
  subst hw
  exact ((Below.refl _ _).alloc (Nat.le_refl _) _).trans (hb.mono (by simp))
end Go.Proofs.Ytpfaaljmefgpbaa.Hand
end

section
set_option linter.unusedVariables false
set_option linter.unusedSimpArgs false
namespace Go.Proofs.Ytpfaaljmefgpbaa.Hand
open Go.RowKit Go.Proofs.YtpfaaljmefgpbaaW.PrintWords Go.Proofs.YtpfaaljmefgpbaaW.PrintLast Go.Proofs.YtpfaaljmefgpbaaW.PrintMore
def t3 (a : Int) : Int := if a ≥ 128 then Go.bits .xor .u8 (Go.bits .xor .u8 ((a * 2) % 256) 27) a else Go.bits .xor .u8 ((a * 2) % 256) a
def pw : Nat → Int | 0 => 1 | n + 1 => t3 (pw n)
def lg : Nat → Int → Int | 0, _ => 0 | n + 1, a => if pw n = a then n else lg n a
set_option maxRecDepth 100000 in
theorem times3_calls (a : Int) (w : World) : Calls Try.prog 61 #[.int .u8 a] w fun e w' => e = .returned (.int .u8 (t3 a)) ∧ Drawn0 w w' := by
  by_cases c : a ≥ 128
  · have e : t3 a = Go.bits .xor .u8 (Go.bits .xor .u8 ((a * 2) % 256) 27) a := by unfold t3; rw [if_pos c]
    rw [e]
    have c0 : decide (128 ≤ a) = true := decide_eq_true c
    clear c e
    go_enter Try.func61, Try.ntmps61
    go_wp2
    go_ret
    exact ⟨by first | rfl | (simp; done), Drawn0.refl _⟩
  · have e : t3 a = Go.bits .xor .u8 ((a * 2) % 256) a := by unfold t3; rw [if_neg c]
    rw [e]
    have c0 : decide (128 ≤ a) = false := decide_eq_false c
    clear c e
    go_enter Try.func61, Try.ntmps61
    go_wp2
    go_ret
    exact ⟨by first | rfl | (simp; done), Drawn0.refl _⟩
def cellF (n i : Nat) : Value := if i < 510 then .int .u8 (if i % 255 < n then pw (i % 255) else 0) else .int .i64 (lg n ((i : Int) - 510))
def cellsAt (n : Nat) : Array Value := Array.ofFn (n := 766) fun i => cellF n i.val
theorem cellsAt_size (n : Nat) : (cellsAt n).size = 766 := by simp [cellsAt]
theorem cellsAt_get (n i : Nat) (h : i < 766) : (cellsAt n)[i]? = some (cellF n i) := by
  simp [cellsAt, h]
theorem pw_range (n : Nat) : 0 ≤ pw n ∧ pw n < 256 := by
  cases n with
  | zero => decide
  | succ n =>
    show 0 ≤ t3 _ ∧ t3 _ < 256
    unfold t3
    split <;> (unfold Go.bits; simp only [IntKind.wrap_u8]; omega)
theorem cellsAt_zero : (Try.prog.info? 86).map (fun i => i.zero) = some (some (.agg (cellsAt 0))) := by kernel_rfl
theorem cellF_one (n i : Nat) : (cellF n i).oneCell' = true := by unfold cellF; split <;> rfl
theorem cellsAt_succ (n : Nat) (hn : n < 255) :
    (((cellsAt n).setIfInBounds n (.int .u8 (pw n))).setIfInBounds (n + 255) (.int .u8 (pw n))).setIfInBounds (510 + (pw n).toNat) (.int .i64 n) = cellsAt (n + 1) := by
  have hp := pw_range n
  refine Array.ext_getElem? fun i => ?_
  by_cases h2 : i < 766
  · have e : ∀ m, (cellsAt m)[i]? = some (cellF m i) := fun m => cellsAt_get m i h2
    simp only [Array.getElem?_setIfInBounds, Array.size_setIfInBounds, cellsAt_size, e]
    unfold cellF
    by_cases c : i < 510
    · rw [if_neg (by omega), if_pos c, if_pos c]
      by_cases c1 : i = n + 255
      · subst c1; rw [if_pos rfl, if_pos (by omega), show (n + 255) % 255 = n from by omega, if_pos (by omega)]
      · rw [if_neg (fun h => c1 h.symm)]
        by_cases c2 : i = n
        · subst c2; rw [if_pos rfl, if_pos (by omega), show i % 255 = i from by omega, if_pos (by omega)]
        · rw [if_neg (fun h => c2 h.symm)]
          have : i % 255 ≠ n := by omega
          by_cases c3 : i % 255 < n
          · rw [if_pos c3, if_pos (by omega)]
          · rw [if_neg c3, if_neg (by omega)]
    · rw [if_neg c, if_neg c]
      simp only [lg]
      by_cases c1 : 510 + (pw n).toNat = i
      · rw [if_pos c1, if_pos (by omega), if_pos (by omega)]
      · rw [if_neg c1, if_neg (by omega), if_neg (by omega), if_neg (by omega)]
  · rw [Array.getElem?_eq_none (by simp [cellsAt_size]; omega), Array.getElem?_eq_none (by simp [cellsAt_size]; omega)]
section
variable {P : Program} {ops : Array Oper} {rest : List Oper} {o : Oper} {a : Act} {Q : Exit → Act → World → Prop}
theorem store_blk {w0 W : World} (hgd : o.guard = none) (hN : o.dst = none) (t : TypeId) (p x : Operand) (ho : o.op = .store t p x) (g i : Nat) (cs : Array Value) (T : TypeId) (k : IntKind) (z : Int)
    (hp : a.eval p = .pointer (some ⟨g, i, none⟩)) (hv : a.eval x = .int k z) (hs : (P.info? t).map (·.size) = some 1)
    (hg : W.heap[g]? = some (.cells cs T (0, 0))) (hi : i < cs.size) (B : Nat) (hB : Below B w0 W) (hge : B ≤ g)
    (h : ∀ W', W'.heap[g]? = some (.cells (cs.setIfInBounds i (.int k z)) T (0, 0)) → Below B w0 W' → W'.heap.size = W.heap.size → wpList P ops Q rest a W') : wpList P ops Q (o :: rest) a W := by
  refine wpList_plain hgd fun K hK => ?_
  have hcell : W.cell? ⟨g, i, none⟩ = some cs[i] := by rw [cell_of_row W g i cs T (0, 0) hg]; simp [hi]
  have hfr : W.frozen? ⟨g, i, none⟩ = false := frozen_of_row W g i cs T hg
  have hrun : (Instr.storeAt t (.pointer (some ⟨g, i, none⟩)) (.int k z)).run P W = .ok () (W.setCell ⟨g, i, none⟩ (.int k z)) := by
    have := run_storeCells_cells (P := P) g i [.int k z] 0 W (fun j hj => by obtain rfl : j = 0 := by simpa using hj
                                                                             simp [hcell]) (fun j hj => by obtain rfl : j = 0 := by simpa using hj
                                                                                                           simpa using hfr) (fun u hu => by simp only [List.mem_singleton] at hu; subst hu; rfl)
    cases hq : P.info? t with
    | none => simp [hq] at hs
    | some y =>
      have hz : y.size = 1 := by simpa [hq] using hs
      simp only [Nat.add_zero] at this
      simp only [Instr.storeAt, Instr.sureAddr, Sem.run_bind, Sem.run_pure, Result.andThen_ok]
      simp [storeVar, sizeOf, typeInfo, hq, Value.cells, hz, this, World.setCells]
  have e : a.put o.dst undef = a := by rw [hN]; rfl
  unfold Oper.wp execOp
  simp only [ho, hp, hv, Sem.run_bind, hrun, Result.andThen_ok]
  refine hK _ _ ?_
  rw [e]
  exact h _ (heap_setCell_same W g i cs T _ hg) (hB.setCell hge _) (by simp [World.setCell])
theorem alloc_blk {W : World} (hgd : o.guard = none) (t : TypeId) (ho : o.op = .alloc t) (cs : Array Value) (hz : (P.info? t).map (fun i => i.zero) = some (some (.agg cs)))
    (h : wpList P ops Q rest (a.put o.dst (.pointer (some ⟨W.heap.size, 0, none⟩))) (W.alloc (.cells cs t))) : wpList P ops Q (o :: rest) a W := by
  refine Go.Great.wpList_allocTo hgd o.dst rfl (.pointer (some ⟨W.heap.size, 0, none⟩)) (.cells cs t) ?_ h
  cases hq : P.info? t with
  | none => simp [hq] at hz
  | some y =>
    have hz2 : y.zero = some (.agg cs) := by simpa [hq] using hz
    unfold execOp
    simp [ho, Instr.alloc, zeroValue, typeInfo, hq, hz2, newVar, newRow, Value.cells]
end
theorem cellsAt_all (n : Nat) : (cellsAt n).all (·.oneCell') = true := by
  rw [Array.all_eq_true]
  intro i h
  simp [cellsAt, cellF_one]
@[irreducible] def tbl : Array Value := cellsAt 255
theorem tbl_eq : tbl = cellsAt 255 := by unfold tbl; rfl
theorem tbl_size : tbl.size = 766 := by rw [tbl_eq, cellsAt_size]
theorem tbl_all : tbl.all (·.oneCell') = true := by rw [tbl_eq]; exact cellsAt_all _
def Made (w : World) (a : Act) (W : World) : Prop :=
  ∃ (n : Nat) (u3 u4 u5 u6 u7 u8 u9 u10 u11 u12 u13 u14 u15 u16 u17 u18 u19 u20 u21 u22 : Value), n < 255 ∧
    a = { tmps := #[.pointer (some ⟨w.heap.size, 0, none⟩), .int .i64 n, .int .u8 (pw n), u3, u4, u5, u6, u7, u8, u9, u10, u11, u12, u13, u14, u15, u16, u17, u18, u19, u20, u21, u22], defers := [] } ∧
    W.heap[w.heap.size]? = some (.cells (cellsAt n) 86 (0, 0)) ∧ Below w.heap.size w W
set_option maxHeartbeats 1000000 in
set_option maxRecDepth 100000 in
theorem made_calls (w : World) : Calls Try.prog 58 #[] w fun e w' => e = .returned (.agg tbl) ∧ Below w.heap.size w w' := by
  obtain ⟨C0, hC0⟩ : ∃ C, C = cellsAt 0 := ⟨_, rfl⟩
  go_enter Try.func58, Try.ntmps58
  go_wp2_with (refine alloc_blk rfl 86 rfl C0 (by rw [hC0]; exact cellsAt_zero) ?_)
  have hg0 : (w.alloc (.cells C0 86)).heap[w.heap.size]? = some (.cells (cellsAt 0) 86 (0, 0)) := by rw [heap_alloc_new, hC0]
  have hb0 : Below w.heap.size w (w.alloc (.cells C0 86)) := (Below.refl _ _).alloc (Nat.le_refl _) _
  generalize w.alloc (.cells C0 86) = W0 at hg0 hb0 ⊢
  refine wp_scope_jumps 0 (Made w) (fun a' _ => 255 - (intOf (a'.tmps.getD 1 undef)).toNat) rfl ?_ ?_
  · have Hs := Aside0.mk (cellsAt_succ 0 (by omega))
    clear hC0
    go_wp2_with fail
    go_step3
    go_wp2_with (first
      | (refine store_blk rfl rfl 5 (Operand.tmp 9) (Operand.tmp 6) rfl w.heap.size 0 (cellsAt 0) 86 .u8 1 rfl rfl (by kernel_rfl) hg0 (by rw [cellsAt_size]; omega) w.heap.size hb0 (Nat.le_refl _) ?_; clear hg0 hb0; intro W1 hg1 hb1 _)
      | (refine store_blk rfl rfl 5 (Operand.tmp 11) (Operand.tmp 7) rfl w.heap.size 255 _ 86 .u8 1 rfl rfl (by kernel_rfl) hg1 (by simp only [Array.size_setIfInBounds, cellsAt_size]; omega) w.heap.size hb1 (Nat.le_refl _) ?_; clear hg1 hb1; intro W2 hg2 hb2 _)
      | (refine store_blk rfl rfl 3 (Operand.tmp 15) (Operand.tmp 13) rfl w.heap.size 511 _ 86 .i64 0 rfl rfl (by kernel_rfl) hg2 (by simp only [Array.size_setIfInBounds, cellsAt_size]; omega) w.heap.size hb2 (Nat.le_refl _) ?_; clear hg2 hb2; intro W3 hg3 hb3 _)
      | (go_at_call 61; refine (times3_calls 1 _).mono ?_; rintro e w' ⟨rfl, ⟨nd, rfl⟩⟩))
    go_step3
    refine ⟨rfl, 1, _, _, _, _, _, _, _, _, _, _, _, _, _, _, _, _, _, _, _, _, by omega, rfl, ?_, pw_below_drewN hb3 nd⟩
    rw [← Hs.out]; exact hg3
  · rintro a' W ⟨n, u3, u4, u5, u6, u7, u8, u9, u10, u11, u12, u13, u14, u15, u16, u17, u18, u19, u20, u21, u22, hn, rfl, hg, hb⟩
    have hp := pw_range n
    have hw : ((n : Int) + 255).toNat = n + 255 := by omega
    have Hs := Aside0.mk (cellsAt_succ n hn)
    go_wp2_with (first
      | (refine store_blk rfl rfl 5 (Operand.tmp 9) (Operand.tmp 6) rfl w.heap.size n (cellsAt n) 86 .u8 (pw n) rfl rfl (by kernel_rfl) hg (by rw [cellsAt_size]; omega) w.heap.size hb (Nat.le_refl _) ?_; clear hg hb; intro W1 hg1 hb1 _)
      | (refine store_blk rfl rfl 5 (Operand.tmp 11) (Operand.tmp 7) rfl w.heap.size (n + 255) _ 86 .u8 (pw n) rfl rfl (by kernel_rfl) hg1 (by simp only [Array.size_setIfInBounds, cellsAt_size]; omega) w.heap.size hb1 (Nat.le_refl _) ?_; clear hg1 hb1; intro W2 hg2 hb2 _)
      | (refine store_blk rfl rfl 3 (Operand.tmp 15) (Operand.tmp 13) rfl w.heap.size (510 + (pw n).toNat) _ 86 .i64 n rfl rfl (by kernel_rfl) hg2 (by simp only [Array.size_setIfInBounds, cellsAt_size]; omega) w.heap.size hb2 (Nat.le_refl _) ?_; clear hg2 hb2; intro W3 hg3 hb3 _)
      | (go_at_call 61; refine (times3_calls (pw n) _).mono ?_; rintro e w' ⟨rfl, ⟨nd, rfl⟩⟩)
      | (refine wpList_load_row rfl 86 (Operand.tmp 0) rfl w.heap.size rfl 86 (cellsAt (n + 1)) (0, 0) _ (by rw [← Hs.out]; exact hg3) Try.underlying86 rfl (by rw [cellsAt_size]; kernel_rfl) ?_)
      | (refine wpList_store_row rfl 86 (Operand.tmp 0) (Operand.tmp 22) rfl w.heap.size (cellsAt (n + 1)) rfl rfl 86 (cellsAt (n + 1)) (by rw [← Hs.out]; exact hg3) (by rw [cellsAt_size]; kernel_rfl) rfl (cellsAt_all _) ?_))
    · go_step3
      have hlt : n + 1 < 255 := by
        have : (n : Int) + 1 < 255 := by assumption
        omega
      refine ⟨rfl, ⟨n + 1, _, _, _, _, _, _, _, _, _, _, _, _, _, _, _, _, _, _, _, _, hlt, rfl, ?_, pw_below_drewN hb3 nd⟩, by simp [intOf]; omega⟩
      rw [← Hs.out]; exact hg3
    · have hlt : n + 1 = 255 := by
        have : (255 : Int) ≤ (n : Int) + 1 := by assumption
        omega
      have hg4 : ((W3.drewN nd).setRow w.heap.size (cellsAt (n + 1))).heap[w.heap.size]? = some (.cells (cellsAt (n + 1)) 86 (0, 0)) := setRow_heap _ _ (cellsAt (n + 1)) _ _ _ (by rw [← Hs.out]; exact hg3)
      change bodyPost Try.prog Try.f58 (fun e w' => e = .returned (.agg tbl) ∧ Below w.heap.size w w') .ret _ _
      refine bodyPost_ret (v := .agg (cellsAt (n + 1))) (results_cell_row rfl _ _ w.heap.size 86 (cellsAt (n + 1)) (0, 0) _ rfl hg4 Try.underlying86 rfl (by rw [cellsAt_size]; kernel_rfl)) rfl ⟨by rw [hlt, tbl_eq], ?_⟩
      refine (pw_below_drewN hb3 nd).trans ⟨rfl, rfl, rfl, by simp, fun k hk => setRow_other _ _ _ _ (by omega)⟩
set_option maxRecDepth 100000 in
theorem known_calls (w : World) : Calls Try.prog 49 #[] w fun e w' => e = .returned (.agg tbl) ∧ Below w.heap.size w w' := by
  obtain ⟨C0, hC0⟩ : ∃ C, C = cellsAt 0 := ⟨_, rfl⟩
  have HC0 := Aside0.mk hC0
  clear hC0
  go_enter Try.func49, Try.ntmps49
  go_wp2_with (first
    | (refine alloc_blk rfl 86 rfl C0 (by rw [HC0.out]; exact cellsAt_zero) ?_)
    | (go_at_call 58; refine (made_calls _).mono ?_; rintro e w' ⟨rfl, hb⟩)
    | (refine wpList_store_row rfl 86 (Operand.tmp 0) (Operand.tmp 1) rfl w.heap.size tbl rfl rfl 86 C0 ((hb.block w.heap.size (by simp)).trans (heap_alloc_new _ _)) (by rw [tbl_size]; kernel_rfl) (by rw [HC0.out, cellsAt_size, tbl_size]) tbl_all ?_))
  have hg4 : (w'.setRow w.heap.size tbl).heap[w.heap.size]? = some (.cells tbl 86 (0, 0)) := setRow_heap _ _ C0 _ _ _ ((hb.block w.heap.size (by simp)).trans (heap_alloc_new _ _))
  refine bodyPost_ret (v := .agg tbl) (results_cell_row rfl _ _ w.heap.size 86 tbl (0, 0) _ rfl hg4 Try.underlying86 rfl (by rw [tbl_size]; kernel_rfl)) rfl ⟨rfl, ?_⟩
  have h1 : Below w.heap.size w w' := ((Below.refl _ _).alloc (Nat.le_refl _) _).trans (hb.mono (by simp))
  exact h1.trans ⟨rfl, rfl, rfl, by simp, fun k hk => setRow_other _ _ _ _ (by omega)⟩
@[irreducible] def tblE : Array Value := tbl.extract 0 510
@[irreducible] def tblL : Array Value := tbl.extract 510 766
theorem size54 : (Try.prog.info? 83).map (fun i => i.size) = some 510 := by kernel_rfl
theorem size55 : (Try.prog.info? 84).map (fun i => i.size) = some 256 := by kernel_rfl
theorem size5 : (Try.prog.info? 5).map (fun i => i.size) = some 1 := by kernel_rfl
theorem size3 : (Try.prog.info? 3).map (fun i => i.size) = some 1 := by kernel_rfl
theorem run_isAgg_yes {P : Program} {t : TypeId} {n e : Nat} (h : P.underlying t = some (.array n e)) (w : World) : (isAgg t).run P w = .ok true w := by
  unfold isAgg; rw [Sem.run_bind, run_underlying h w]; rfl
theorem run_isAgg_int {P : Program} {t : TypeId} {k : IntKind} (h : P.underlying t = some (.int k)) (w : World) : (isAgg t).run P w = .ok false w := by
  unfold isAgg; rw [Sem.run_bind, run_underlying h w]; rfl
theorem run_sizeOf {P : Program} {t : TypeId} {n : Nat} (h : (P.info? t).map (fun i => i.size) = some n) (w : World) : (sizeOf t).run P w = .ok n w := by
  cases hq : P.info? t with
  | none => simp [hq] at h
  | some i =>
    have : i.size = n := by simpa [hq] using h
    simp [sizeOf, typeInfo, hq, this]
theorem run_part {P : Program} {t : TypeId} {n e m : Nat} (h : P.underlying t = some (.array n e)) (hs : (P.info? t).map (fun i => i.size) = some m) (cs : Array Value) (off : Nat) (w : World) :
    (part t cs off).run P w = .ok (.agg (cs.extract off (off + m))) w := by
  simp [part, Sem.run_bind, run_isAgg_yes h w, run_sizeOf hs w]
theorem run_part_one {P : Program} {t : TypeId} {k : IntKind} (h : P.underlying t = some (.int k)) (cs : Array Value) (off : Nat) (v : Value) (hv : cs[off]? = some v) (w : World) :
    (part t cs off).run P w = .ok v w := by
  simp [part, Sem.run_bind, run_isAgg_int h w, hv]
theorem run_exp (w : World) : (Instr.field 86 (.agg tbl) 0).run Try.prog w = .ok (.agg tblE) w := by
  have h : (Instr.field 86 (.agg tbl) 0).run Try.prog w = (part 83 tbl 0).run Try.prog w := by simp [Instr.field, asAgg]
  rw [h, run_part Try.underlying83 size54]
  unfold tblE; rfl
theorem run_log (w : World) : (Instr.field 86 (.agg tbl) 1).run Try.prog w = .ok (.agg tblL) w := by
  have h : (Instr.field 86 (.agg tbl) 1).run Try.prog w = (part 84 tbl 510).run Try.prog w := by simp [Instr.field, asAgg]
  rw [h, run_part Try.underlying84 size55]
  unfold tblL; rfl
theorem tblE_get (i : Nat) (h : i < 510) : tblE[i]? = some (.int .u8 (pw (i % 255))) := by
  unfold tblE
  rw [Array.getElem?_extract, if_pos (by rw [tbl_size]; omega), Nat.zero_add, tbl_eq, cellsAt_get _ _ (by omega)]
  unfold cellF
  rw [if_pos h, if_pos (by omega)]
theorem tblL_get (i : Nat) (h : i < 256) : tblL[i]? = some (.int .i64 (lg 255 i)) := by
  unfold tblL
  rw [Array.getElem?_extract, if_pos (by rw [tbl_size]; omega), tbl_eq, cellsAt_get _ _ (by omega)]
  unfold cellF
  rw [if_neg (by omega), show ((510 + i : Nat) : Int) - 510 = i from by omega]
theorem run_at_exp (i : Int) (h0 : 0 ≤ i) (h1 : i < 510) (w : World) : (Instr.index 83 (.agg tblE) (.int .i64 i)).run Try.prog w = .ok (.int .u8 (pw (i.toNat % 255))) w := by
  have hc : (0 ≤ i ∧ i < ((510 : Nat) : Int)) := ⟨h0, by omega⟩
  have h : (Instr.index 83 (.agg tblE) (.int .i64 i)).run Try.prog w = (part 5 tblE i.toNat).run Try.prog w := by
    simp only [Instr.index, asIntOf, Sem.run_bind, Sem.run_pure, Result.andThen_ok, run_underlying Try.underlying83 w, if_pos hc, run_sizeOf size5 w, Nat.mul_one]
  rw [h, run_part_one Try.underlying5 _ _ _ (tblE_get i.toNat (by omega))]
theorem run_at_log (i : Int) (h0 : 0 ≤ i) (h1 : i < 256) (w : World) : (Instr.index 84 (.agg tblL) (.int .u8 i)).run Try.prog w = .ok (.int .i64 (lg 255 i)) w := by
  have hc : (0 ≤ i ∧ i < ((256 : Nat) : Int)) := ⟨h0, by omega⟩
  have h : (Instr.index 84 (.agg tblL) (.int .u8 i)).run Try.prog w = (part 3 tblL i.toNat).run Try.prog w := by
    simp only [Instr.index, asIntOf, Sem.run_bind, Sem.run_pure, Result.andThen_ok, run_underlying Try.underlying84 w, if_pos hc, run_sizeOf size3 w, Nat.mul_one]
  rw [h, run_part_one Try.underlying3 _ _ _ (tblL_get i.toNat (by omega)), show ((i.toNat : Nat) : Int) = i from by omega]
theorem lg_range (n : Nat) : ∀ a, 0 ≤ lg n a ∧ lg n a < 255 ∨ 255 < n := by
  induction n with
  | zero => intro a; left; simp [lg]
  | succ n ih =>
    intro a
    by_cases hn : 255 < n + 1
    · right; exact hn
    · left
      simp only [lg]
      split
      · omega
      · rcases ih a with h | h
        · exact h
        · omega
theorem lg_lt (a : Int) : 0 ≤ lg 255 a ∧ lg 255 a < 255 := by
  rcases lg_range 255 a with h | h
  · exact h
  · omega
end Go.Proofs.Ytpfaaljmefgpbaa.Hand
end

section
namespace Go.Proofs.Ytpfaaljmefgpbaa.GF
abbrev G := BitVec 8
def xt (a : G) : G := if a.msb then (a <<< 1) ^^^ 0x1b#8 else a <<< 1
def tx (a : G) (i : Nat) : G := match i with | 0 => a | n + 1 => tx (xt a) n
def sel (c : Bool) (a : G) : G := if c then a else 0#8
def mul (a b : G) : G :=
  sel (b.getLsbD 0) a ^^^ (sel (b.getLsbD 1) (tx a 1) ^^^ (sel (b.getLsbD 2) (tx a 2) ^^^ (sel (b.getLsbD 3) (tx a 3) ^^^
   (sel (b.getLsbD 4) (tx a 4) ^^^ (sel (b.getLsbD 5) (tx a 5) ^^^ (sel (b.getLsbD 6) (tx a 6) ^^^ sel (b.getLsbD 7) (tx a 7)))))))
theorem xor_left_comm (a b c : G) : a ^^^ (b ^^^ c) = b ^^^ (a ^^^ c) := by
  rw [← BitVec.xor_assoc, BitVec.xor_comm a b, BitVec.xor_assoc]
theorem xor_cancel (a b : G) : a ^^^ (a ^^^ b) = b := by
  rw [← BitVec.xor_assoc, BitVec.xor_self, BitVec.zero_xor]
theorem xt_xor (a b : G) : xt (a ^^^ b) = xt a ^^^ xt b := by
  unfold xt
  rw [BitVec.msb_xor]
  cases a.msb <;> cases b.msb <;> simp [BitVec.shiftLeft_xor_distrib, xor_left_comm, BitVec.xor_comm, BitVec.xor_assoc]
theorem xt_zero : xt 0#8 = 0#8 := by decide
theorem tx_xor (i : Nat) : ∀ a b : G, tx (a ^^^ b) i = tx a i ^^^ tx b i := by
  induction i with
  | zero => intro a b; rfl
  | succ n ih => intro a b; simp only [tx]; rw [xt_xor, ih]
theorem tx_zero (i : Nat) : tx 0#8 i = 0#8 := by
  induction i with
  | zero => rfl
  | succ n ih => simp only [tx]; rw [xt_zero, ih]
theorem sel_xor (c : Bool) (a b : G) : sel c (a ^^^ b) = sel c a ^^^ sel c b := by cases c <;> simp [sel]
theorem sel_bxor (c d : Bool) (a : G) : sel (c ^^ d) a = sel c a ^^^ sel d a := by cases c <;> cases d <;> simp [sel]
theorem add_mul (a b c : G) : mul (a ^^^ b) c = mul a c ^^^ mul b c := by
  unfold mul
  simp only [tx_xor, sel_xor]
  ac_rfl
theorem mul_add (a b c : G) : mul a (b ^^^ c) = mul a b ^^^ mul a c := by
  unfold mul
  simp only [BitVec.getLsbD_xor, sel_bxor]
  ac_rfl
theorem mul_zero (a : G) : mul a 0#8 = 0#8 := by simp [mul, sel]
theorem zero_mul (a : G) : mul 0#8 a = 0#8 := by simp [mul, sel, tx_zero]
theorem bits (a : G) : a = sel (a.getLsbD 0) 1#8 ^^^ (sel (a.getLsbD 1) 2#8 ^^^ (sel (a.getLsbD 2) 4#8 ^^^ (sel (a.getLsbD 3) 8#8 ^^^
   (sel (a.getLsbD 4) 16#8 ^^^ (sel (a.getLsbD 5) 32#8 ^^^ (sel (a.getLsbD 6) 64#8 ^^^ sel (a.getLsbD 7) 128#8)))))) := by
  revert a; decide +kernel
theorem induct (p : G → Prop) (h0 : p 0#8) (hadd : ∀ a b, p a → p b → p (a ^^^ b))
    (hu : ∀ i : Fin 8, p (1#8 <<< i.val)) (a : G) : p a := by
  have hs : ∀ (c : Bool) (x : G), p x → p (sel c x) := by intro c x hx; cases c <;> simp [sel, h0, hx]
  rw [bits a]
  have h := fun i => hu i
  exact hadd _ _ (hs _ _ (h 0)) (hadd _ _ (hs _ _ (h 1)) (hadd _ _ (hs _ _ (h 2)) (hadd _ _ (hs _ _ (h 3)) (hadd _ _ (hs _ _ (h 4)) (hadd _ _ (hs _ _ (h 5)) (hadd _ _ (hs _ _ (h 6)) (hs _ _ (h 7))))))))
theorem mul_comm (a b : G) : mul a b = mul b a := by
  refine induct (fun a => mul a b = mul b a) ?_ ?_ ?_ a
  · rw [mul_zero, zero_mul]
  · intro x y hx hy; rw [add_mul, mul_add, hx, hy]
  · intro i
    refine induct (fun b => mul (1#8 <<< i.val) b = mul b (1#8 <<< i.val)) ?_ ?_ ?_ b
    · rw [mul_zero, zero_mul]
    · intro x y hx hy; rw [add_mul, mul_add, hx, hy]
    · intro j; revert i j; decide +kernel
theorem mul_assoc (a b c : G) : mul (mul a b) c = mul a (mul b c) := by
  refine induct (fun a => mul (mul a b) c = mul a (mul b c)) ?_ ?_ ?_ a
  · simp only [zero_mul]
  · intro x y hx hy; simp only [add_mul, hx, hy]
  · intro i
    refine induct (fun b => mul (mul (1#8 <<< i.val) b) c = mul (1#8 <<< i.val) (mul b c)) ?_ ?_ ?_ b
    · simp only [zero_mul, mul_zero]
    · intro x y hx hy; simp only [add_mul, mul_add, hx, hy]
    · intro j
      refine induct (fun c => mul (mul (1#8 <<< i.val) (1#8 <<< j.val)) c = mul (1#8 <<< i.val) (mul (1#8 <<< j.val) c)) ?_ ?_ ?_ c
      · simp only [mul_zero]
      · intro x y hx hy; simp only [mul_add, hx, hy]
      · intro k; revert i j k; decide +kernel
theorem mul_one (a : G) : mul a 1#8 = a := by revert a; decide +kernel
theorem one_mul (a : G) : mul 1#8 a = a := by rw [mul_comm, mul_one]
def pow (a : G) : Nat → G | 0 => 1#8 | n + 1 => mul (pow a n) a
def sq (a : G) : G := mul a a
def inv (a : G) : G :=
  let a2 := sq a; let a4 := sq a2; let a8 := sq a4; let a16 := sq a8; let a32 := sq a16; let a64 := sq a32; let a128 := sq a64
  mul a2 (mul a4 (mul a8 (mul a16 (mul a32 (mul a64 a128)))))
theorem mul_inv (a : G) (h : a ≠ 0#8) : mul a (inv a) = 1#8 := by
  revert a; decide +kernel
end Go.Proofs.Ytpfaaljmefgpbaa.GF
end

section
set_option linter.unusedVariables false
set_option linter.unusedSimpArgs false
namespace Go.Proofs.Ytpfaaljmefgpbaa.Hand
open Go.Proofs.Ytpfaaljmefgpbaa.GF
def toG (z : Int) : G := BitVec.ofInt 8 z
def ofG (g : G) : Int := (g.toNat : Int)
theorem ofG_range (g : G) : 0 ≤ ofG g ∧ ofG g < 256 := by
  have := g.isLt
  unfold ofG; omega
theorem toG_ofG (g : G) : toG (ofG g) = g := by
  unfold toG ofG
  rw [BitVec.ofInt_natCast, BitVec.ofNat_toNat]; simp
theorem ofG_toG {z : Int} (h0 : 0 ≤ z) (h1 : z < 256) : ofG (toG z) = z := by
  obtain ⟨n, rfl⟩ := Int.eq_ofNat_of_zero_le h0
  unfold toG ofG
  rw [BitVec.ofInt_natCast, BitVec.toNat_ofNat]
  omega
theorem toG_inj {a b : Int} (a0 : 0 ≤ a) (a1 : a < 256) (b0 : 0 ≤ b) (b1 : b < 256) (h : toG a = toG b) : a = b := by
  rw [← ofG_toG a0 a1, ← ofG_toG b0 b1, h]
theorem toG_zero : toG 0 = 0#8 := rfl
theorem toG_eq_zero {a : Int} (a0 : 0 ≤ a) (a1 : a < 256) : toG a = 0#8 ↔ a = 0 :=
  ⟨fun h => toG_inj a0 a1 (by omega) (by omega) h, fun h => by rw [h]; rfl⟩
theorem bits_xor (a b : Int) : Go.bits .xor .u8 a b = ofG (toG a ^^^ toG b) := by
  have h := (BitVec.ofInt 8 a ^^^ BitVec.ofInt 8 b).isLt
  unfold Go.bits ofG toG
  rw [IntKind.wrap_u8]
  show (((BitVec.ofInt 8 a ^^^ BitVec.ofInt 8 b).toNat : Nat) : Int) % 256 = _
  omega
theorem t3_all : ∀ g : G, t3 (ofG g) = ofG (mul g 3#8) := by decide +kernel
def three : G := 3#8
theorem pw_pow (n : Nat) : pw n = ofG (pow three n) := by
  induction n with
  | zero => rfl
  | succ n ih => show t3 (pw n) = _; rw [ih, t3_all]; rfl
theorem pow_add (a : G) (m n : Nat) : pow a (m + n) = mul (pow a m) (pow a n) := by
  induction n with
  | zero => rw [Nat.add_zero]; show _ = mul _ 1#8; rw [mul_one]
  | succ n ih => rw [← Nat.add_assoc]; show mul (pow a (m + n)) a = mul _ (mul _ _); rw [ih, mul_assoc]
theorem pow_mul (a : G) (m n : Nat) : pow a (m * n) = pow (pow a m) n := by
  induction n with
  | zero => rfl
  | succ n ih => rw [Nat.mul_succ, pow_add, ih]; rfl
theorem one_pow (n : Nat) : pow 1#8 n = 1#8 := by
  induction n with
  | zero => rfl
  | succ n ih => show mul (pow 1#8 n) 1#8 = _; rw [ih]; rfl
theorem three_255 : pow three 255 = 1#8 := by decide +kernel
theorem pow_mod (n : Nat) : pow three (n % 255) = pow three n := by
  have h : n = 255 * (n / 255) + n % 255 := (Nat.div_add_mod n 255).symm
  conv => rhs; rw [h]
  rw [pow_add, pow_mul, three_255, one_pow, one_mul]
def pws : Nat → G → List G | 0, _ => [] | n + 1, a => a :: pws n (mul a three)
theorem pws_mem {a : G} : ∀ {n : Nat} {x : G}, x ∈ pws n a → ∃ m, m < n ∧ x = mul a (pow three m)
  | 0, x, h => by cases h
  | n + 1, x, h => by
    rcases List.mem_cons.1 h with rfl | h
    · exact ⟨0, by omega, (mul_one _).symm⟩
    · obtain ⟨m, hm, rfl⟩ := pws_mem h
      exact ⟨m + 1, by omega, by show mul (mul a three) _ = mul a (mul _ _); rw [mul_assoc, mul_comm three]⟩
theorem all_pws : ∀ g : G, g ≠ 0#8 → g ∈ pws 255 1#8 := by decide +kernel
theorem exists_pow {g : G} (h : g ≠ 0#8) : ∃ m, m < 255 ∧ pow three m = g := by
  obtain ⟨m, hm, e⟩ := pws_mem (all_pws g h)
  exact ⟨m, hm, by rw [e, one_mul]⟩
theorem lg_spec {n : Nat} {a : Int} (h : ∃ m, m < n ∧ pw m = a) : ∃ k : Nat, lg n a = k ∧ k < n ∧ pw k = a := by
  induction n with
  | zero => obtain ⟨m, hm, _⟩ := h; omega
  | succ n ih =>
    simp only [lg]
    by_cases e : pw n = a
    · exact ⟨n, by rw [if_pos e], by omega, e⟩
    · rw [if_neg e]
      obtain ⟨m, hm, hp⟩ := h
      have : m ≠ n := fun h => e (by rw [← h]; exact hp)
      obtain ⟨k, h1, h2, h3⟩ := ih ⟨m, by omega, hp⟩
      exact ⟨k, h1, by omega, h3⟩
def gl (a : Int) : Int := lg 255 a
theorem gl_spec {a : Int} (a0 : 0 ≤ a) (a1 : a < 256) (hne : a ≠ 0) : ∃ k : Nat, gl a = k ∧ k < 255 ∧ pow three k = toG a := by
  obtain ⟨m, hm, hp⟩ := exists_pow (g := toG a) (fun h => hne ((toG_eq_zero a0 a1).1 h))
  obtain ⟨k, h1, h2, h3⟩ := lg_spec (n := 255) (a := a) ⟨m, hm, by rw [pw_pow, hp, ofG_toG a0 a1]⟩
  exact ⟨k, h1, h2, by rw [pw_pow] at h3; rw [← h3, toG_ofG]⟩
def isB (a : Int) : Prop := 0 ≤ a ∧ a < 256
instance (a : Int) : Decidable (isB a) := inferInstanceAs (Decidable (_ ∧ _))
def gm (a b : Int) : Int := ofG (mul (toG a) (toG b))
def gi (a : Int) : Int := ofG (inv (toG a))
theorem gm_zero {a b : Int} (h : a = 0 ∨ b = 0) : gm a b = 0 := by
  unfold gm
  rcases h with rfl | rfl
  · rw [toG_zero, zero_mul]; rfl
  · rw [toG_zero, mul_zero]; rfl
theorem mul_of_table {a b : Int} (ha : isB a) (hb : isB b) (h1 : a ≠ 0) (h2 : b ≠ 0) : pw ((lg 255 a + lg 255 b).toNat % 255) = gm a b := by
  obtain ⟨k, e1, k1, p1⟩ := gl_spec ha.1 ha.2 h1
  obtain ⟨l, e2, l1, p2⟩ := gl_spec hb.1 hb.2 h2
  unfold gl at e1 e2
  rw [e1, e2, pw_pow, pow_mod, show ((k : Int) + l).toNat = k + l from by omega, pow_add, p1, p2]; rfl
theorem inv_of_table {a : Int} (ha : isB a) (h1 : a ≠ 0) : pw ((255 - lg 255 a).toNat % 255) = gi a := by
  obtain ⟨k, e1, k1, p1⟩ := gl_spec ha.1 ha.2 h1
  unfold gl at e1
  rw [e1, pw_pow, pow_mod, show ((255 : Int) - k).toNat = 255 - k from by omega]
  have hne : toG a ≠ 0#8 := fun h => h1 ((toG_eq_zero ha.1 ha.2).1 h)
  have e : mul (toG a) (pow three (255 - k)) = 1#8 := by rw [← p1, ← pow_add, show k + (255 - k) = 255 from by omega, three_255]
  have : pow three (255 - k) = inv (toG a) := by
    have h2 := congrArg (mul (inv (toG a))) e
    rwa [← mul_assoc, mul_comm (inv (toG a)), mul_inv _ hne, one_mul, mul_one] at h2
  rw [this]; rfl
end Go.Proofs.Ytpfaaljmefgpbaa.Hand
end

section
set_option linter.unusedVariables false
set_option linter.unusedSimpArgs false
namespace Go.Proofs.Ytpfaaljmefgpbaa.Hand
open Go.RowKit Go.Proofs.YtpfaaljmefgpbaaW.PrintWords Go.Proofs.YtpfaaljmefgpbaaW.PrintLast Go.Proofs.YtpfaaljmefgpbaaW.PrintMore
theorem below_next {w w1 w2 : World} (h : Below w.heap.size w w1) (k : Below w1.heap.size w1 w2) : Below w.heap.size w w2 := below_then h h.size k
def field_Mul.f (a0 a1 : Int) : Option Int := if isB a0 ∧ isB a1 then some (gm a0 a1) else none
set_option maxRecDepth 100000 in
theorem mul_zero_calls (a b : Int) (h : a = 0 ∨ b = 0) (w : World) : Calls Try.prog 45 #[.int .u8 a, .int .u8 b] w fun e w' => e = .returned (.int .u8 0) ∧ Below w.heap.size w w' := by
  by_cases h1 : (a == 0) = true
  · go_enter Try.func45, Try.ntmps45
    go_wp2
    go_ret
    exact ⟨rfl, Below.refl _ _⟩
  · have h1 : (a == 0) = false := by simpa using h1
    have h2 : (b == 0) = true := by
      rcases h with h | h
      · subst h; simp at h1
      · subst h; rfl
    clear h
    go_enter Try.func45, Try.ntmps45
    go_wp2
    go_ret
    exact ⟨rfl, Below.refl _ _⟩
set_option maxRecDepth 100000 in
set_option maxHeartbeats 1000000 in
theorem mul_calls (a b : Int) (ha : (a == 0) = false) (hb : (b == 0) = false) (a0 : 0 ≤ a) (a1 : a < 256) (b0 : 0 ≤ b) (b1 : b < 256) (r : Int) (hr : Aside0 (pw ((lg 255 a + lg 255 b).toNat % 255) = r)) (w : World) : Calls Try.prog 45 #[.int .u8 a, .int .u8 b] w fun e w' => e = .returned (.int .u8 r) ∧ Below w.heap.size w w' := by
  have l1 := lg_lt a
  have l2 := lg_lt b
  have e1 := run_exp
  have e2 := run_log
  have e3 := run_at_log a a0 a1
  have e4 := run_at_log b b0 b1
  have e5 := run_at_exp (lg 255 a + lg 255 b) (by omega) (by omega)
  have e6 : IntKind.i64.wrap (lg 255 a + lg 255 b) = lg 255 a + lg 255 b := IntWalk.i64_in _ (by omega)
  go_enter Try.func45, Try.ntmps45
  go_wp2
  refine start_ (n := 13) (S := fun _ => True) (ds := []) #[false, false, false, false, false, false, false, false, false, false, false, false, false] (by kernel_rfl) rfl rfl trivial (fun _ => ?_)
  refine pure_ (i := 4) (N := some 15) (v := ?_) (a' := ?_) #[false, false, false, false, true, false, false, false, false, false, false, false, false] rfl rfl (by kernel_rfl) (fun _ _ _ h => h) (Or.inl ⟨by rfl, ?_⟩) ?_ ?_
  rotate_left
  · intro w'
    go_simp
    with_reducible rfl
  rotate_left
  · simp only [Act.put, List.setIfInBounds_toArray, List.set_cons_zero, List.set_cons_succ]
    rfl
  refine pure_ (i := 8) (N := some 19) (v := ?_) (a' := ?_) #[false, false, false, false, true, false, false, false, true, false, false, false, false] rfl rfl (by kernel_rfl) (fun _ _ _ h => h) (Or.inl ⟨by rfl, ?_⟩) ?_ ?_
  rotate_left
  · intro w'
    go_simp
    with_reducible rfl
  rotate_left
  · simp only [Act.put, List.setIfInBounds_toArray, List.set_cons_zero, List.set_cons_succ]
    rfl
  refine one_ (i := 0) (N := some 11) #[true, false, false, false, true, false, false, false, true, false, false, false, false] rfl rfl (by kernel_rfl) (by decide) (fun K hK => ?_)
  refine goes_ Try.func49 (by kernel_rfl) rfl #[] (by rfl) rfl rfl (by (try simp only [List.map_toArray, List.map_cons, List.map_nil]); first | done | rfl) ?_
  refine (known_calls _).mono ?_
  rintro e w1 ⟨rfl, hb1⟩
  refine ⟨_, rfl, ?_⟩
  refine hK.out _ _ trivial (fun _ => ?_)
  clear hK K
  refine norm_ (a' := ?_) ?_ ?_
  rotate_left
  · show Act.put _ (some 11) _ = _
    simp only [Act.put, List.setIfInBounds_toArray, List.set_cons_zero, List.set_cons_succ]
    rfl
  refine pure_ (i := 1) (N := some 12) (v := ?_) (a' := ?_) #[true, true, false, false, true, false, false, false, true, false, false, false, false] rfl rfl (by kernel_rfl) (fun _ _ _ h => h) (Or.inl ⟨by rfl, ?_⟩) ?_ ?_
  rotate_left
  · intro w'
    go_simp
    with_reducible rfl
  rotate_left
  · simp only [Act.put, List.setIfInBounds_toArray, List.set_cons_zero, List.set_cons_succ]
    rfl
  refine one_ (i := 2) (N := some 13) #[true, true, true, false, true, false, false, false, true, false, false, false, false] rfl rfl (by kernel_rfl) (by decide) (fun K hK => ?_)
  refine goes_ Try.func49 (by kernel_rfl) rfl #[] (by rfl) rfl rfl (by (try simp only [List.map_toArray, List.map_cons, List.map_nil]); first | done | rfl) ?_
  refine (known_calls _).mono ?_
  rintro e w2 ⟨rfl, hb2⟩
  refine ⟨_, rfl, ?_⟩
  refine hK.out _ _ trivial (fun _ => ?_)
  clear hK K
  refine norm_ (a' := ?_) ?_ ?_
  rotate_left
  · show Act.put _ (some 13) _ = _
    simp only [Act.put, List.setIfInBounds_toArray, List.set_cons_zero, List.set_cons_succ]
    rfl
  refine pure_ (i := 3) (N := some 14) (v := ?_) (a' := ?_) #[true, true, true, true, true, false, false, false, true, false, false, false, false] rfl rfl (by kernel_rfl) (fun _ _ _ h => h) (Or.inl ⟨by rfl, ?_⟩) ?_ ?_
  rotate_left
  · intro w'
    go_simp
    with_reducible rfl
  rotate_left
  · simp only [Act.put, List.setIfInBounds_toArray, List.set_cons_zero, List.set_cons_succ]
    rfl
  refine pure_ (i := 5) (N := some 16) (v := ?_) (a' := ?_) #[true, true, true, true, true, true, false, false, true, false, false, false, false] rfl rfl (by kernel_rfl) (fun _ _ _ h => h) (Or.inl ⟨by rfl, ?_⟩) ?_ ?_
  rotate_left
  · intro w'
    go_simp
    with_reducible rfl
  rotate_left
  · simp only [Act.put, List.setIfInBounds_toArray, List.set_cons_zero, List.set_cons_succ]
    rfl
  refine one_ (i := 6) (N := some 17) #[true, true, true, true, true, true, true, false, true, false, false, false, false] rfl rfl (by kernel_rfl) (by decide) (fun K hK => ?_)
  refine goes_ Try.func49 (by kernel_rfl) rfl #[] (by rfl) rfl rfl (by (try simp only [List.map_toArray, List.map_cons, List.map_nil]); first | done | rfl) ?_
  refine (known_calls _).mono ?_
  rintro e w3 ⟨rfl, hb3⟩
  refine ⟨_, rfl, ?_⟩
  refine hK.out _ _ trivial (fun _ => ?_)
  clear hK K
  refine norm_ (a' := ?_) ?_ ?_
  rotate_left
  · show Act.put _ (some 17) _ = _
    simp only [Act.put, List.setIfInBounds_toArray, List.set_cons_zero, List.set_cons_succ]
    rfl
  refine pure_ (i := 7) (N := some 18) (v := ?_) (a' := ?_) #[true, true, true, true, true, true, true, true, true, false, false, false, false] rfl rfl (by kernel_rfl) (fun _ _ _ h => h) (Or.inl ⟨by rfl, ?_⟩) ?_ ?_
  rotate_left
  · intro w'
    go_simp
    with_reducible rfl
  rotate_left
  · simp only [Act.put, List.setIfInBounds_toArray, List.set_cons_zero, List.set_cons_succ]
    rfl
  refine pure_ (i := 9) (N := some 20) (v := ?_) (a' := ?_) #[true, true, true, true, true, true, true, true, true, true, false, false, false] rfl rfl (by kernel_rfl) (fun _ _ _ h => h) (Or.inl ⟨by rfl, ?_⟩) ?_ ?_
  rotate_left
  · intro w'
    go_simp
    with_reducible rfl
  rotate_left
  · simp only [Act.put, List.setIfInBounds_toArray, List.set_cons_zero, List.set_cons_succ]
    rfl
  refine pure_ (i := 10) (N := some 21) (v := ?_) (a' := ?_) #[true, true, true, true, true, true, true, true, true, true, true, false, false] rfl rfl (by kernel_rfl) (fun _ _ _ h => h) (Or.inl ⟨by rfl, ?_⟩) ?_ ?_
  rotate_left
  · intro w'
    go_simp
    with_reducible rfl
  rotate_left
  · simp only [Act.put, List.setIfInBounds_toArray, List.set_cons_zero, List.set_cons_succ]
    rfl
  refine pure_ (i := 11) (N := some 22) (v := ?_) (a' := ?_) #[true, true, true, true, true, true, true, true, true, true, true, true, false] rfl rfl (by kernel_rfl) (fun _ _ _ h => h) (Or.inl ⟨by rfl, ?_⟩) ?_ ?_
  rotate_left
  · intro w'
    go_simp
    with_reducible rfl
  rotate_left
  · simp only [Act.put, List.setIfInBounds_toArray, List.set_cons_zero, List.set_cons_succ]
    rfl
  refine pure_ (i := 12) (N := some 4) (v := ?_) (a' := ?_) #[true, true, true, true, true, true, true, true, true, true, true, true, true] rfl rfl (by kernel_rfl) (fun _ _ _ h => h) (Or.inl ⟨by rfl, ?_⟩) ?_ ?_
  rotate_left
  · intro w'
    go_simp
    with_reducible rfl
  rotate_left
  · simp only [Act.put, List.setIfInBounds_toArray, List.set_cons_zero, List.set_cons_succ]
    rfl
  refine done_ (by kernel_rfl) ?_
  clear e1 e2 e3 e4 e5 e6
  go_wp2
  go_ret
  exact ⟨by rw [← hr.out]; rfl, below_next (below_next (below_next (below_drew1 (Below.refl _ _)) hb1) hb2) hb3⟩
theorem field_Mul.calls (a0 a1 r : Int) (w : World) (h : field_Mul.f a0 a1 = some r) :
    Calls Try.prog 45 #[.int .u8 a0, .int .u8 a1] w fun e w' => e = .returned (.int .u8 r) ∧ Below w.heap.size w w' := by
  unfold field_Mul.f at h
  by_cases c : isB a0 ∧ isB a1
  · rw [if_pos c] at h
    obtain rfl := Option.some.inj h
    by_cases h1 : a0 = 0 ∨ a1 = 0
    · rw [gm_zero h1]; exact mul_zero_calls a0 a1 h1 w
    · have h2 : a0 ≠ 0 := fun e => h1 (.inl e)
      have h3 : a1 ≠ 0 := fun e => h1 (.inr e)
      exact mul_calls a0 a1 (beq_eq_false_iff_ne.2 h2) (beq_eq_false_iff_ne.2 h3) c.1.1 c.1.2 c.2.1 c.2.2 _ ⟨mul_of_table c.1 c.2 h2 h3⟩ w
  · rw [if_neg c] at h; cases h
def field_Inv.f (a0 : Int) : Option (Int × Int) := if isB a0 then (if a0 = 0 then some (0, 1) else some (gi a0, 0)) else none
set_option maxRecDepth 100000 in
set_option maxHeartbeats 1000000 in
theorem inv_calls (a : Int) (ha : (a == 0) = false) (a0 : 0 ≤ a) (a1 : a < 256) (r : Int) (hr : Aside0 (pw ((255 - lg 255 a).toNat % 255) = r)) (w : World) : Calls Try.prog 26 #[.int .u8 a] w fun e w' => e = .returned (.tuple #[.int .u8 r, .int .i64 0]) ∧ Below w.heap.size w w' := by
  have l1 := lg_lt a
  have e1 := run_exp
  have e2 := run_log
  have e3 := run_at_log a a0 a1
  have e5 := run_at_exp (255 - lg 255 a) (by omega) (by omega)
  go_enter Try.func26, Try.ntmps26
  go_wp2_with (go_at_call 49; refine (known_calls _).mono ?_; rintro e w1 ⟨rfl, hb1⟩)
  go_ret2
  exact ⟨by rw [← hr.out]; rfl, below_next (by assumption) (by assumption)⟩
set_option maxRecDepth 100000 in
theorem inv_zero_calls (w : World) : Calls Try.prog 26 #[.int .u8 0] w fun e w' => e = .returned (.tuple #[.int .u8 0, .int .i64 1]) ∧ Below w.heap.size w w' := by
  go_enter Try.func26, Try.ntmps26
  go_wp2
  go_ret2
  exact ⟨rfl, Below.refl _ _⟩
theorem field_Inv.calls (a0 r1 r2 : Int) (w : World) (h : field_Inv.f a0 = some (r1, r2)) :
    Calls Try.prog 26 #[.int .u8 a0] w fun e w' => e = .returned (.tuple #[.int .u8 r1, .int .i64 r2]) ∧ Below w.heap.size w w' := by
  unfold field_Inv.f at h
  by_cases c : isB a0
  · rw [if_pos c] at h
    by_cases h1 : a0 = 0
    · rw [if_pos h1] at h
      simp only [Option.some.injEq, Prod.mk.injEq] at h
      obtain ⟨rfl, rfl⟩ := h
      subst h1; exact inv_zero_calls w
    · rw [if_neg h1] at h
      simp only [Option.some.injEq, Prod.mk.injEq] at h
      obtain ⟨rfl, rfl⟩ := h
      exact inv_calls a0 (beq_eq_false_iff_ne.2 h1) c.1 c.2 _ ⟨inv_of_table c h1⟩ w
  · rw [if_neg c] at h; cases h
end Go.Proofs.Ytpfaaljmefgpbaa.Hand
end
