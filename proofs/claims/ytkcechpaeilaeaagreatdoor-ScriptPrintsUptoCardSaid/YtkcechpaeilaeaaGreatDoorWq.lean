/- Regions whose operations leave the world alone but for what their calls add (a class of worlds): the text's order serves every order; a guard may stay open. After the kit's own law (Derived.Deep.Quiet). Nothing here names the program. -/
import Derived.Deep.Quiet
import Derived.Test.YtkcechpaeilaeaaGreatDoorTa
import Derived.Test.YtkcechpaeilaeaaGreatDoorGa
namespace Go.Proofs.YtkcechpaeilaeaaGreatDoor
open Go.RowKit
set_option linter.unusedVariables false
set_option linter.unusedSimpArgs false
variable {P : Program} {ops : Array Oper} {rest : List Oper} {o : Oper} {a : Act}

/-- What a slot holds whose guard says g. -/
def gv (g : Bool) (v : Value) : Value := if g then v else undef
section
variable {Q : Exit → Act → World → Prop} {w : World}
theorem wl_G {v : Value} (g : Bool) (hT : g = true → Region.wanted o (yielded ops a.tmps) = true) (hF : g = false → Region.wanted o (yielded ops a.tmps) = false) (hr : g = true → (execOp a.eval o).run P w = .ok (.value v) w)
    (h : wpList P ops Q rest (a.put o.dst (gv g v)) w) : wpList P ops Q (o :: rest) a w := by
  cases g
  · refine wpList_step fun K hK => ?_
    rw [if_neg (by rw [hF rfl]; decide)]
    exact hK _ _ h
  · exact wl_runG (hT rfl) (hr rfl) h
/-- A call that leaves the world alone. -/
theorem wl_callG (g : Bool) (f : FuncId) (xs : List Operand) (ats : Array TypeId) (ho : o.op = .call { callee := .value (.func f), args := xs.toArray, argTypes := ats }) {fn : Func} (hf : P.funcs[f]? = some fn) (hn : (fn.name == "runtime.NumGoroutine") = false) (hb : fn.body.isNone = false)
    (hT : g = true → Region.wanted o (yielded ops a.tmps) = true) (hF : g = false → Region.wanted o (yielded ops a.tmps) = false) (args : List Value) (ha : g = true → xs.map a.eval = args) (v : Value) (hc : g = true → Calls P f args.toArray w fun e w' => e = .returned v ∧ w = w')
    (h : wpList P ops Q rest (a.put o.dst (gv g v)) w) : wpList P ops Q (o :: rest) a w := by
  cases g
  · refine wpList_step fun K hK => ?_
    rw [if_neg (by rw [hF rfl]; decide)]
    exact hK _ _ h
  · refine wpList_step fun K hK => ?_
    rw [if_pos (hT rfl)]
    refine ow_call f xs ats ho hf hn hb args (ha rfl) (hc rfl) ?_
    rintro e w' ⟨rfl, rfl⟩
    exact ⟨_, rfl, hK _ _ h⟩
end
section
variable {Q : Act → Prop} {C : World → Prop}
theorem wq_run {v : Value} (hg : o.guard = none) (hr : ∀ W, C W → (execOp a.eval o).run P W = .ok (.value v) W) (h : wpQuiet P ops C Q rest (a.put o.dst v)) : wpQuiet P ops C Q (o :: rest) a := by
  refine wpQuiet_step fun K hK => ?_
  rw [if_pos (by simp only [Region.wanted, hg])]
  refine ⟨v, fun W hW => ?_, hK _ h⟩
  unfold Oper.quietAt
  rw [hr W hW]
  exact ⟨rfl, rfl⟩
theorem wq_G {v : Value} (g : Bool) (hT : g = true → Region.wanted o (yielded ops a.tmps) = true) (hF : g = false → Region.wanted o (yielded ops a.tmps) = false) (hr : g = true → ∀ W, C W → (execOp a.eval o).run P W = .ok (.value v) W)
    (h : wpQuiet P ops C Q rest (a.put o.dst (gv g v))) : wpQuiet P ops C Q (o :: rest) a := by
  refine wpQuiet_step fun K hK => ?_
  cases g
  · rw [if_neg (by rw [hF rfl]; decide)]
    exact hK _ h
  · rw [if_pos (hT rfl)]
    refine ⟨v, fun W hW => ?_, hK _ h⟩
    unfold Oper.quietAt
    rw [hr rfl W hW]
    exact ⟨rfl, rfl⟩
theorem wq_callG (g : Bool) (f : FuncId) (xs : List Operand) (ats : Array TypeId) (ho : o.op = .call { callee := .value (.func f), args := xs.toArray, argTypes := ats }) {fn : Func} (hf : P.funcs[f]? = some fn) (hn : (fn.name == "runtime.NumGoroutine") = false) (hb : fn.body.isNone = false)
    (hT : g = true → Region.wanted o (yielded ops a.tmps) = true) (hF : g = false → Region.wanted o (yielded ops a.tmps) = false) (args : List Value) (ha : g = true → xs.map a.eval = args) (v : Value) (hc : g = true → ∀ W, C W → Calls P f args.toArray W fun e w' => e = .returned v ∧ C w')
    (h : wpQuiet P ops C Q rest (a.put o.dst (gv g v))) : wpQuiet P ops C Q (o :: rest) a := by
  refine wpQuiet_step fun K hK => ?_
  cases g
  · rw [if_neg (by rw [hF rfl]; decide)]
    exact hK _ h
  · rw [if_pos (hT rfl)]
    refine ⟨v, fun W hW => ?_, hK _ h⟩
    unfold Oper.quietAt
    rw [ex_call W f xs.toArray ats ho hf hn hb args.toArray (by rw [← ha rfl]; simp)]
    exact ⟨rfl, hc rfl W hW⟩
theorem wq_call (f : FuncId) (xs : List Operand) (ats : Array TypeId) (ho : o.op = .call { callee := .value (.func f), args := xs.toArray, argTypes := ats }) {fn : Func} (hf : P.funcs[f]? = some fn) (hn : (fn.name == "runtime.NumGoroutine") = false) (hb : fn.body.isNone = false)
    (hg : o.guard = none) (args : List Value) (ha : xs.map a.eval = args) (v : Value) (hc : ∀ W, C W → Calls P f args.toArray W fun e w' => e = .returned v ∧ C w')
    (h : wpQuiet P ops C Q rest (a.put o.dst v)) : wpQuiet P ops C Q (o :: rest) a :=
  wq_callG true f xs ats ho hf hn hb (fun _ => by simp only [Region.wanted, hg]) (fun h => by cases h) args (fun _ => ha) v (fun _ => hc) h
end
/-- The region, in the class of the worlds that keep all old blocks. -/
theorem wq_begin {id : Nat} {l : List Oper} {Q : Exit → Act → World → Prop} {w : World} (C : World → Prop) (hm : P.follows .mixedOrders = true) (hB : Region.lexB .any l.toArray = true) (hC : C w.drew)
    (h : wpQuiet P l.toArray C (fun a' => ∀ w', C w' → Q .normal a' w') l a) : (Code.region id l.toArray true).wp P Q a w :=
  wp_region_quiet (C := C) hm hB hC (by simpa using h)
end Go.Proofs.YtkcechpaeilaeaaGreatDoor
