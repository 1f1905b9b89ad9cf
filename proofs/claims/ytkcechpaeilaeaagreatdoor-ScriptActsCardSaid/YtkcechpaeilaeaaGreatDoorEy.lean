/- More small operations. Nothing here names the program. -/
import Derived.Test.YtkcechpaeilaeaaGreatDoorEx
namespace Go.Proofs.YtkcechpaeilaeaaGreatDoor
open Go.RowKit
set_option linter.unusedVariables false
set_option linter.unusedSimpArgs false
variable {P : Program} {ops : Array Oper} {rest : List Oper} {o : Oper} {a : Act} {Q : Exit → Act → World → Prop} {K : Act → World → Prop}

/-- The whole array behind a pointer. -/
theorem ex_sliceWhole (w : World) (t : Nat) (x : Operand) (ho : o.op = .slice t x none none none) (N : Nat) {e : TypeId} (ht : P.underlying t = some (.array N e)) {sz : Nat} (hs : (P.info? e).map (·.size) = some sz) (b off : Nat) (hx : a.eval x = .pointer (some ⟨b, off, none⟩)) (hN : 0 < N) :
    (execOp a.eval o).run P w = .ok (.value (.slice (some ⟨b, off, none⟩) N N)) w := by
  unfold execOp
  have hsz : (sizeOf e).run P w = .ok sz w := by
    cases hq : P.info? e with
    | none => rw [hq] at hs; simp at hs
    | some i => rw [hq] at hs; simp at hs; simp [sizeOf, typeInfo, hq, hs]
  have n0 : ¬ N = 0 := by omega
  simp [ho, hx, Instr.sliceAt, Sem.run_bind, run_underlying ht, Result.andThen_ok, Instr.sureAddr, Sem.run_pure, Instr.sliceBounds, Instr.sliceBound, asIntOf, hsz, n0, Addr.add_mid]
/-- A new map. -/
theorem ex_makeMap (w : World) (t : Nat) (ho : o.op = .makeMap t none) : (execOp a.eval o).run P w = .ok (.value (.map (some w.heap.size))) (w.alloc (.map #[] 0)) := by
  unfold execOp
  simp only [ho, Instr.makeMap, Option.map_none, Sem.run_bind, run_newObj_alloc, Sem.run_pure, Result.andThen_ok]
/-- A new variable that holds a value. -/
theorem ex_box (w : World) (t : Nat) (x : Operand) (ho : o.op = .box t x) (cs : List Value) (hx : a.eval x = .agg cs.toArray) : (execOp a.eval o).run P w = .ok (.value (.pointer (some ⟨w.heap.size, 0, none⟩))) (w.alloc (.cells cs.toArray t)) := by
  unfold execOp
  simp only [ho, hx, Sem.run_bind, Instr.box, newVar, newRow, run_newObj_alloc, Sem.run_pure, Result.andThen_ok, Value.cells]
theorem ex_len (w : World) (t : Nat) (x : Operand) (ho : o.op = .call { callee := .builtin .len, args := #[x], argTypes := #[t] }) {e : TypeId} (ht : P.underlying t = some (.slice e)) (A : Option Addr) (n c : Nat) (hx : a.eval x = .slice A n c) : (execOp a.eval o).run P w = .ok (.value (.int .i64 n)) w := by
  unfold execOp
  simp only [ho, resolve, invoke, builtin, Sem.run_bind, Sem.run_pure, Result.andThen_ok, List.map_toArray, List.map_cons, List.map_nil, hx]
  simp [Builtin.len_, run_underlying ht, Sem.run_bind, goInt]
/-- Two ints compared. -/
theorem ex_cmp (w : World) (op : BinOp) (t t2 : Nat) (x y : Operand) (ho : o.op = .binOp op t x y t2) (k : IntKind) (p q : Int) (hx : a.eval x = .int k p) (hy : a.eval y = .int k q) (b : Bool) (hb : (Op.intCmp op p q).run P w = .ok (.bool b) w)
    (hop : ∀ (p q : Int), (eqGuard op t x y (.int k p) (.int k q)).run P w = .ok () w) (hop2 : binOp op t (.int k p) (.int k q) = Op.intCmp op p q) : (execOp a.eval o).run P w = .ok (.value (.bool b)) w := by
  unfold execOp
  simp only [ho, hx, hy, Sem.run_bind, hop, hop2, hb, Result.andThen_ok]
  rfl
theorem ex_lss (w : World) (t t2 : Nat) (x y : Operand) (ho : o.op = .binOp .lss t x y t2) (k : IntKind) (p q : Int) (hx : a.eval x = .int k p) (hy : a.eval y = .int k q) (b : Bool) (hb : decide (p < q) = b) : (execOp a.eval o).run P w = .ok (.value (.bool b)) w :=
  ex_cmp w .lss t t2 x y ho k p q hx hy b (by rw [← hb]; rfl) (fun _ _ => rfl) (by simp [binOp])
theorem ex_gtr (w : World) (t t2 : Nat) (x y : Operand) (ho : o.op = .binOp .gtr t x y t2) (k : IntKind) (p q : Int) (hx : a.eval x = .int k p) (hy : a.eval y = .int k q) (b : Bool) (hb : decide (q < p) = b) : (execOp a.eval o).run P w = .ok (.value (.bool b)) w :=
  ex_cmp w .gtr t t2 x y ho k p q hx hy b (by rw [← hb]; rfl) (fun _ _ => rfl) (by simp [binOp])
theorem ex_eql (w : World) (t t2 : Nat) (x y : Operand) (ho : o.op = .binOp .eql t x y t2) (k : IntKind) (p q : Int) (hx : a.eval x = .int k p) (hy : a.eval y = .int k q) (b : Bool) (hb : decide (p = q) = b) : (execOp a.eval o).run P w = .ok (.value (.bool b)) w :=
  ex_cmp w .eql t t2 x y ho k p q hx hy b (by rw [← hb]; rfl) (fun _ _ => rfl) (by simp [binOp])
theorem ex_pick (w : World) (c x y : Operand) (ho : o.op = .pick c x y) (b : Bool) (v : Value) (hc : a.eval c = .bool b) (hv : (if b then a.eval x else a.eval y) = v) : (execOp a.eval o).run P w = .ok (.value v) w := by
  unfold execOp
  simp only [ho, hc, Sem.run_bind, asBool, Sem.run_pure, Result.andThen_ok, hv]
end Go.Proofs.YtkcechpaeilaeaaGreatDoor
