/- Calls through a function value: the walk's step. -/
import Derived.Test.YthgpmneplpdeiaaHBase
set_option linter.unusedVariables false
set_option linter.unusedSimpArgs false
namespace Go.Proofs.Ythgpmneplpdeiaa.Hand
open Go.RowKit Go.Proofs.YthgpmneplpdeiaaW.PrintWords Go.Proofs.YthgpmneplpdeiaaW.PrintLast Go.Proofs.YthgpmneplpdeiaaW.PrintMore

/-- a function of the program that can be called -/
structure FnOk (P : Program) (g : FuncId) : Prop where
  ok : ∃ fn, P.funcs[g]? = some fn ∧ (fn.name == "runtime.NumGoroutine") = false ∧ fn.body.isSome = true
theorem FnOk.run {P : Program} {g : FuncId} (h : FnOk P g) (args : Array Value) (w : World) : (callFunc g args).run P w = .ok (.enter g args) w := by
  obtain ⟨fn, h1, h2, h3⟩ := h.ok
  exact enters_ h1 h2 h3 args w
theorem infoT5 : (Try.prog.info? 5).map (fun i => (i.zero, i.size, i.bytes)) = some (some (.int .u8 0), 1, 1) := by kernel_rfl
theorem infoT23 : (Try.prog.info? 23).map (fun i => (i.zero, i.size, i.bytes)) = some (some (.slice none 0 0), 1, 24) := by kernel_rfl
section
variable {P : Program} {ops : Array Oper} {Q : Exit → Act → World → Prop}
theorem fun_run {oi : Oper} {a : Act} {w : World} {g : FuncId} {ops_ : Array Operand} {ts : Array TypeId} (hf : FnOk P g) (x : Operand) (lb : Array Value) (hx : a.eval x = .func (.func g) #[] lb) (args : Array Value)
    (hop : oi.op = .call { callee := .value x, args := ops_, argTypes := ts }) (hargs : ops_.map a.eval = args) : (execOp a.eval oi).run P w = .ok (.enter g (args ++ lb)) w := by
  unfold execOp
  simp [hop, resolve, Deferred.ofValue, invoke, hx, hargs, hf.run]
theorem goesV_ {oi : Oper} {N : Option Tmp} {a : Act} {w : World} {K : Act → World → Prop} {g : FuncId} {ops_ : Array Operand} {ts : Array TypeId} (hf : FnOk P g) (x : Operand) (lb : Array Value) (hx : a.eval x = .func (.func g) #[] lb) (args : Array Value)
    (hw : Region.wanted oi (yielded ops a.tmps) = true) (hN : oi.dst = N) (hop : oi.op = .call { callee := .value x, args := ops_, argTypes := ts }) (hargs : ops_.map a.eval = args)
    (h : Calls P g (args ++ lb) w fun e w' => ∃ v, e = .returned v ∧ K (a.put N v) w') : if Region.wanted oi (yielded ops a.tmps) = true then Oper.wp P oi a w K Q else K (a.put N undef) w :=
  call_ g (args ++ lb) hw hN (fun_run hf x lb hx args hop hargs) h
theorem goesVL_ {rest : List Oper} {oi : Oper} {a : Act} {w : World} (N : Option Tmp) (hd : oi.dst = N) (hg : oi.guard = none) {g : FuncId} {ops_ : Array Operand} {ts : Array TypeId} (hf : FnOk P g) (x : Operand) (lb : Array Value) (hx : a.eval x = .func (.func g) #[] lb) (args : Array Value)
    (hop : oi.op = .call { callee := .value x, args := ops_, argTypes := ts }) (hargs : ops_.map a.eval = args)
    (h : Calls P g (args ++ lb) w fun e w' => ∃ v, e = .returned v ∧ wpList P ops Q rest (a.put N v) w') : wpList P ops Q (oi :: rest) a w := by
  refine wpList_plain hg fun K hK => ?_
  unfold Oper.wp
  rw [fun_run hf x lb hx args hop hargs, Oper.upon_enter]
  refine h.mono fun e w'' hh => ?_
  obtain ⟨v, rfl, hk⟩ := hh
  subst hd
  exact hK _ _ hk
end
theorem box_lower {w w1 w2 : World} {o : Obj} (hw : w1 = w.alloc o) (hb : Below w1.heap.size w1 w2) : Below w.heap.size w w2 := by
  subst hw
  exact ((Below.refl _ _).alloc (Nat.le_refl _) _).trans (hb.mono (by simp))
end Go.Proofs.Ythgpmneplpdeiaa.Hand
