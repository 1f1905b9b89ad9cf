/- A call of one of the program's own functions, at one operation. Nothing here names the program. -/
import Derived.Test.YtkcechpaeilaeaaGreatDoorEy
namespace Go.Proofs.YtkcechpaeilaeaaGreatDoor
open Go.RowKit
set_option linter.unusedVariables false
set_option linter.unusedSimpArgs false
variable {P : Program} {ops : Array Oper} {rest : List Oper} {o : Oper} {a : Act} {Q : Exit → Act → World → Prop} {K : Act → World → Prop}

theorem ex_call (w : World) (f : FuncId) (xs : Array Operand) (ats : Array TypeId) (ho : o.op = .call { callee := .value (.func f), args := xs, argTypes := ats }) {fn : Func} (hf : P.funcs[f]? = some fn) (hn : (fn.name == "runtime.NumGoroutine") = false) (hb : fn.body.isNone = false)
    (args : Array Value) (ha : xs.map a.eval = args) : (execOp a.eval o).run P w = .ok (.enter f args) w := by
  obtain ⟨dst, op, ty, pos, after, guard⟩ := o
  subst ho
  rw [execOp_call_go, ha]
  simp only [callFunc, Sem.run_bind, run_program, Result.andThen_ok, hf, hn, hb, Bool.false_eq_true, if_false, Sem.run_pure, Array.empty_append, Array.append_empty]
/-- A call whose contract is known: it returns. -/
theorem ow_call {w : World} (f : FuncId) (xs : List Operand) (ats : Array TypeId) (ho : o.op = .call { callee := .value (.func f), args := xs.toArray, argTypes := ats }) {fn : Func} (hf : P.funcs[f]? = some fn) (hn : (fn.name == "runtime.NumGoroutine") = false) (hb : fn.body.isNone = false)
    (args : List Value) (ha : xs.map a.eval = args) {R : Ending → World → Prop} (hc : Calls P f args.toArray w R) (h : ∀ e w', R e w' → ∃ v, e = .returned v ∧ K (a.put o.dst v) w') : o.wp P a w K Q := by
  unfold Oper.wp
  rw [ex_call w f xs.toArray ats ho hf hn hb args.toArray (by rw [← ha]; simp), Oper.upon_enter]
  refine hc.mono fun e w' hr => ?_
  obtain ⟨v, rfl, hk⟩ := h e w' hr
  exact hk
theorem ex_assign (w : World) (x : Operand) (v : Value) (ho : o.op = .assign x) (hx : a.eval x = v) : (execOp a.eval o).run P w = .ok (.value v) w := by
  unfold execOp
  simp only [ho, hx, Sem.run_pure]
end Go.Proofs.YtkcechpaeilaeaaGreatDoor
