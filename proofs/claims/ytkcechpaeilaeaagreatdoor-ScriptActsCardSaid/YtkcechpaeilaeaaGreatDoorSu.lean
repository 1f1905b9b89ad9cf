/- More single operations: conversions of numbers, slices of bytes written out. Nothing here names the program. -/
import Derived.Test.YtkcechpaeilaeaaGreatDoorSt
import Derived.Test.YtkcechpaeilaeaaGreatDoorEz
namespace Go.Proofs.YtkcechpaeilaeaaGreatDoor
open Go.RowKit
set_option linter.unusedVariables false
set_option linter.unusedSimpArgs false
variable {P : Program} {ops : Array Oper} {rest : List Oper} {o : Oper} {a : Act} {Q : Exit → Act → World → Prop} {K : Act → World → Prop}

theorem ex_toi64 (w : World) (s d : TypeId) (x : Operand) (ho : o.op = .convert s d x) (hs : (P.underlying s).isSome = true) (hd : P.underlying d = some (.int .i64)) (k : IntKind) (c : Nat) (hc : c < 256) (hx : a.eval x = .int k (c : Int)) :
    (execOp a.eval o).run P w = .ok (.value (.int .i64 (c : Int))) w := by
  unfold execOp
  have hk : P.intKind d = .i64 := by simp [Program.intKind, hd]
  have e := run_convert_int (P := P) w s d k c hs (by rw [hk]; exact hd)
  rw [hk] at e
  have hw : IntKind.i64.wrap (c : Int) = (c : Int) := by rw [IntKind.wrap_i64]; omega
  rw [hw] at e
  simp only [ho, hx, Sem.run_bind, e, Result.andThen_ok, Sem.run_pure]
theorem ex_tou8 (w : World) (s d : TypeId) (x : Operand) (ho : o.op = .convert s d x) (hs : (P.underlying s).isSome = true) (hd : P.underlying d = some (.int .u8)) (k : IntKind) (c : Nat) (hc : c < 256) (hx : a.eval x = .int k (c : Int)) :
    (execOp a.eval o).run P w = .ok (.value (.int .u8 (c : Int))) w := by
  unfold execOp
  have hk : P.intKind d = .u8 := by simp [Program.intKind, hd]
  have e := run_convert_int (P := P) w s d k c hs (by rw [hk]; exact hd)
  rw [hk] at e
  have hw : IntKind.u8.wrap (c : Int) = (c : Int) := by rw [IntKind.wrap_u8]; omega
  rw [hw] at e
  simp only [ho, hx, Sem.run_bind, e, Result.andThen_ok, Sem.run_pure]
theorem tdiv16 (c : Nat) : ((c : Int).tdiv 16) = ((c / 16 : Nat) : Int) := by
  rw [Int.tdiv_eq_ediv_of_nonneg (by omega)]; omega
theorem tmod16 (c : Nat) : ((c : Int).tmod 16) = ((c % 16 : Nat) : Int) := by
  rw [Int.tmod_eq_emod_of_nonneg (by omega)]; omega
theorem ex_quo16 (w : World) (t t2 : TypeId) (x y : Operand) (ho : o.op = .binOp .quo t x y t2) (c : Nat) (hc : c < 256) (hx : a.eval x = .int .i64 (c : Int)) (hy : a.eval y = .int .i64 16) : (execOp a.eval o).run P w = .ok (.value (.int .i64 ((c / 16 : Nat) : Int))) w := by
  have hw : IntKind.i64.wrap ((c / 16 : Nat) : Int) = ((c / 16 : Nat) : Int) := by rw [IntKind.wrap_i64]; omega
  have e : (binOp .quo t (.int .i64 (c : Int)) (.int .i64 16)).run P w = .ok (.int .i64 ((c / 16 : Nat) : Int)) w := by
    simp [binOp]
    rw [show Op.intDiv .quo .i64 (c : Int) 16 = pure (.int .i64 (IntKind.i64.wrap ((c : Int).tdiv 16))) by simp [Op.intDiv], tdiv16, hw]
    rfl
  unfold execOp
  simp only [ho, hx, hy, Sem.run_bind, eqGuard_quo, e, Sem.run_pure, Result.andThen_ok]
theorem ex_rem16 (w : World) (t t2 : TypeId) (x y : Operand) (ho : o.op = .binOp .rem t x y t2) (c : Nat) (hc : c < 256) (hx : a.eval x = .int .i64 (c : Int)) (hy : a.eval y = .int .i64 16) : (execOp a.eval o).run P w = .ok (.value (.int .i64 ((c % 16 : Nat) : Int))) w := by
  have hw : IntKind.i64.wrap ((c % 16 : Nat) : Int) = ((c % 16 : Nat) : Int) := by rw [IntKind.wrap_i64]; omega
  have e : (binOp .rem t (.int .i64 (c : Int)) (.int .i64 16)).run P w = .ok (.int .i64 ((c % 16 : Nat) : Int)) w := by
    simp [binOp]
    rw [show Op.intDiv .rem .i64 (c : Int) 16 = pure (.int .i64 ((c : Int).tmod 16)) by simp [Op.intDiv], tmod16]
    rfl
  unfold execOp
  simp only [ho, hx, hy, Sem.run_bind, eqGuard_rem, e, Sem.run_pure, Result.andThen_ok]
/-- A fresh row of bytes reads as they are. -/
theorem fresh_Bs (w : World) (e : TypeId) (l : List Int) : Bs (w.alloc (.cells (u8s l).toArray e)) (.slice (some ⟨w.heap.size, 0, none⟩) l.length l.length) l := by
  refine ⟨_, _, rfl, Nat.le_refl _, .inr ⟨_, 0, rfl, fun j v hj => ?_⟩⟩
  have hb : (w.alloc (.cells (u8s l).toArray e)).heap[w.heap.size]? = some (.cells (u8s l).toArray e) := by
    show (w.heap.push _)[w.heap.size]? = _
    simp
  rw [Lib.cell_of_heap hb, Nat.zero_add]
  simpa using hj
theorem map_range1 (f : Nat → Value) : (Array.range 1).map f = #[f 0] := by
  apply Array.ext'
  simp [List.range, List.range.loop]
theorem map_range3 (f : Nat → Value) : (Array.range 3).map f = #[f 0, f 1, f 2] := by
  apply Array.ext'
  simp [List.range, List.range.loop]
/-- A slice of bytes that is written out. -/
theorem ex_bs (w : World) (t e : TypeId) (n : Nat) (xs : List Operand) (l : List Int) (ho : o.op = .buildSlice t n (xs.zipIdx.map (fun (x, i) => (i, x))).toArray) (ht : P.underlying t = some (.slice e)) (hn : n = l.length) (hx : xs.map a.eval = u8s l)
    (hi : (P.info? e).map (·.size) = some 1) (hz : (zeroValue e).run P w = .ok (.int .u8 0) w) (h1 : l.length = 1 ∨ l.length = 3) :
    (execOp a.eval o).run P w = .ok (.value (.slice (some ⟨w.heap.size, 0, none⟩) l.length l.length)) (w.alloc (.cells (u8s l).toArray e)) := by
  have hsz := sizeOf_run (P := P) w hi
  subst hn
  have hxl : xs.length = l.length := by have := congrArg List.length hx; simpa using this
  rcases h1 with h | h
  · match l, xs, h, hxl, hx, ho with
    | [p], [x], _, _, hx, ho =>
      simp [u8s] at hx
      unfold execOp
      simp [ho, hx, Instr.buildSlice, Sem.run_bind, run_underlying ht, hsz, hz, Instr.fill, Value.cells, newRow, newObj, u8s, Sem.run, map_range1]
  · match l, xs, h, hxl, hx, ho with
    | [p, q, r], [x, y, z], _, _, hx, ho =>
      simp [u8s] at hx
      unfold execOp
      simp [ho, hx, Instr.buildSlice, Sem.run_bind, run_underlying ht, hsz, hz, Instr.fill, Value.cells, newRow, newObj, u8s, Sem.run, map_range3]
end Go.Proofs.YtkcechpaeilaeaaGreatDoor
