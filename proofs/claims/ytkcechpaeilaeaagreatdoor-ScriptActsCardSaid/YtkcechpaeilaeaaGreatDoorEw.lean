/- More laws of single operations: sums, tests, addresses with a sum of one's own spelling, cuts of slices. Nothing here names the program. -/
import Derived.Test.YtkcechpaeilaeaaGreatDoorEy
import Derived.Test.YtkcechpaeilaeaaGreatDoorEz
import Derived.Test.YtkcechpaeilaeaaGreatDoorApp
import Derived.Test.YtkcechpaeilaeaaGreatDoorReg2
import Derived.Laws.Small
namespace Go.Proofs.YtkcechpaeilaeaaGreatDoor
open Go.RowKit
set_option linter.unusedVariables false
set_option linter.unusedSimpArgs false
section
variable {P : Program} {o : Oper} {a : Act}
theorem sizeOf_run (w : World) {e : TypeId} {sz : Nat} (hs : (P.info? e).map (·.size) = some sz) : (sizeOf e).run P w = .ok sz w := by
  cases hq : P.info? e with
  | none => rw [hq] at hs; simp at hs
  | some i => rw [hq] at hs; simp at hs; simp [sizeOf, typeInfo, hq, hs]
/-- An address in an array behind a pointer. -/
theorem er_indexArr (w : World) (t e : Nat) (x i : Operand) (ho : o.op = .indexAddr t x i) (size n N : Nat) (ht : P.underlying t = some (.array N e)) (hs : (P.info? e).map (·.size) = some size) (b off r : Nat) (hr : off + n * size = r) (hx : a.eval x = .pointer (some ⟨b, off, none⟩)) (k : IntKind) (hi : a.eval i = .int k (n : Int)) (hn : n < N) :
    (execOp a.eval o).run P w = .ok (.value (.pointer (some ⟨b, r, none⟩))) w := by
  subst hr
  unfold execOp
  have hsz := sizeOf_run (P := P) w hs
  have c1 : (0 : Int) ≤ (n : Int) ∧ (n : Int) < (N : Int) := by omega
  simp only [ho, hx, hi, Instr.indexAt, asIntOf, Sem.run_bind, run_underlying ht, Result.andThen_ok, Sem.run_pure, Instr.sureAddr]
  simp only [c1, and_self, if_true, Sem.run_bind, hsz, Result.andThen_ok, Sem.run_pure, Int.toNat_natCast, Addr.add_mid]
theorem er_index (w : World) (t e : Nat) (x i : Operand) (ho : o.op = .indexAddr t x i) (size n : Nat) (ht : P.underlying t = some (.slice e)) (hs : (P.info? e).map (·.size) = some size) (b off len c r : Nat) (hr : off + n * size = r) (hx : a.eval x = .slice (some ⟨b, off, none⟩) len c) (k : IntKind) (hi : a.eval i = .int k (n : Int)) (hn : n < len) :
    (execOp a.eval o).run P w = .ok (.value (.pointer (some ⟨b, r, none⟩))) w := by
  subst hr
  exact ex_index w t e x i ho size n ht hs b off len c hx k hi hn
theorem er_field (w : World) (s k : Nat) (x : Operand) (ho : o.op = .fieldAddr s x k) (b off n f_off r : Nat) (hr : off + f_off = r) {fs : Array Field} {f : Field} (ht : P.underlying s = some (.struct fs)) (hf : fs[k]? = some f) (hn : (P.info? f.type).map (·.size) = some (n + 1)) (hoff : f.offset = f_off)
    (hx : a.eval x = .pointer (some ⟨b, off, none⟩)) : (execOp a.eval o).run P w = .ok (.value (.pointer (some ⟨b, r, none⟩))) w := by
  subst hr
  exact ex_field w s k x ho b off n f_off ht hf hn hoff hx
theorem ex_neq (w : World) (t t2 : Nat) (x y : Operand) (ho : o.op = .binOp .neq t x y t2) (k : IntKind) (p q : Int) (hx : a.eval x = .int k p) (hy : a.eval y = .int k q) (b : Bool) (hb : decide (p ≠ q) = b) : (execOp a.eval o).run P w = .ok (.value (.bool b)) w :=
  ex_cmp w .neq t t2 x y ho k p q hx hy b (by rw [← hb]; by_cases h : p = q <;> simp [Op.intCmp, h] <;> rfl) (fun _ _ => rfl) (by simp [binOp])
theorem ex_geq (w : World) (t t2 : Nat) (x y : Operand) (ho : o.op = .binOp .geq t x y t2) (k : IntKind) (p q : Int) (hx : a.eval x = .int k p) (hy : a.eval y = .int k q) (b : Bool) (hb : decide (q ≤ p) = b) : (execOp a.eval o).run P w = .ok (.value (.bool b)) w :=
  ex_cmp w .geq t t2 x y ho k p q hx hy b (by rw [← hb]; rfl) (fun _ _ => rfl) (by simp [binOp])
theorem ex_leq (w : World) (t t2 : Nat) (x y : Operand) (ho : o.op = .binOp .leq t x y t2) (k : IntKind) (p q : Int) (hx : a.eval x = .int k p) (hy : a.eval y = .int k q) (b : Bool) (hb : decide (p ≤ q) = b) : (execOp a.eval o).run P w = .ok (.value (.bool b)) w :=
  ex_cmp w .leq t t2 x y ho k p q hx hy b (by rw [← hb]; rfl) (fun _ _ => rfl) (by simp [binOp])
theorem ex_eqlB (w : World) (t t2 : Nat) (x y : Operand) (ho : o.op = .binOp .eql t x y t2) (ht : P.underlying t = some .bool) (p q : Bool) (hx : a.eval x = .bool p) (hy : a.eval y = .bool q) (b : Bool) (hb : (p == q) = b) : (execOp a.eval o).run P w = .ok (.value (.bool b)) w := by
  unfold execOp
  have hg : (eqGuard .eql t x y (.bool p) (.bool q)).run P w = .ok () w := by rfl
  simp only [ho, hx, hy, Sem.run_bind, hg, Result.andThen_ok, run_eql_bool w t p q ht, hb]
  rfl
theorem ex_add (w : World) (t t2 : Nat) (x y : Operand) (ho : o.op = .binOp .add t x y t2) (p q : Int) (hx : a.eval x = .int .i64 p) (hy : a.eval y = .int .i64 q) (h0 : -9223372036854775808 ≤ p + q) (h1 : p + q ≤ 9223372036854775807) :
    (execOp a.eval o).run P w = .ok (.value (.int .i64 (p + q))) w := by
  unfold execOp
  have hw : IntKind.i64.wrap (p + q) = p + q := by rw [IntKind.wrap_i64]; omega
  simp only [ho, hx, hy, Sem.run_bind]
  have hg : (eqGuard .add t x y (.int .i64 p) (.int .i64 q)).run P w = .ok () w := by rfl
  have hb : (binOp .add t (.int .i64 p) (.int .i64 q)).run P w = .ok (.int .i64 (p + q)) w := by
    simp only [binOp, Op.intArith, hw, ne_eq, not_true_eq_false, if_false]
    rfl
  rw [hg]
  simp only [Result.andThen_ok, hb]
  rfl
theorem ex_sub (w : World) (t t2 : Nat) (x y : Operand) (ho : o.op = .binOp .sub t x y t2) (p q : Int) (hx : a.eval x = .int .i64 p) (hy : a.eval y = .int .i64 q) (h0 : -9223372036854775808 ≤ p - q) (h1 : p - q ≤ 9223372036854775807) :
    (execOp a.eval o).run P w = .ok (.value (.int .i64 (p - q))) w := by
  unfold execOp
  have hw : IntKind.i64.wrap (p - q) = p - q := by rw [IntKind.wrap_i64]; omega
  simp only [ho, hx, hy, Sem.run_bind]
  have hg : (eqGuard .sub t x y (.int .i64 p) (.int .i64 q)).run P w = .ok () w := by rfl
  have hb : (binOp .sub t (.int .i64 p) (.int .i64 q)).run P w = .ok (.int .i64 (p - q)) w := by
    simp only [binOp, Op.intArith, hw, ne_eq, not_true_eq_false, if_false]
    rfl
  rw [hg]
  simp only [Result.andThen_ok, hb]
  rfl
theorem er_add (w : World) (t t2 : Nat) (x y : Operand) (ho : o.op = .binOp .add t x y t2) (p q r : Nat) (hr : p + q = r) (hx : a.eval x = .int .i64 (p : Int)) (hy : a.eval y = .int .i64 (q : Int)) (h1 : r ≤ 9223372036854775807) :
    (execOp a.eval o).run P w = .ok (.value (.int .i64 (r : Int))) w := by
  subst hr
  rw [Int.natCast_add]
  exact ex_add w t t2 x y ho _ _ hx hy (by omega) (by omega)
theorem er_sub (w : World) (t t2 : Nat) (x y : Operand) (ho : o.op = .binOp .sub t x y t2) (p q r : Nat) (hr : p = q + r) (hx : a.eval x = .int .i64 (p : Int)) (hy : a.eval y = .int .i64 (q : Int)) (h1 : p ≤ 9223372036854775807) :
    (execOp a.eval o).run P w = .ok (.value (.int .i64 (r : Int))) w := by
  subst hr
  have := ex_sub (P := P) w t t2 x y ho _ _ hx hy (by omega) (by omega)
  rw [this]
  congr 4
  omega
theorem er_mul (w : World) (t t2 : Nat) (x y : Operand) (ho : o.op = .binOp .mul t x y t2) (p q r : Nat) (hr : p * q = r) (hx : a.eval x = .int .i64 (p : Int)) (hy : a.eval y = .int .i64 (q : Int)) (h1 : r ≤ 9223372036854775807) :
    (execOp a.eval o).run P w = .ok (.value (.int .i64 (r : Int))) w := by
  subst hr
  rw [Int.natCast_mul]
  exact ex_mul w t t2 x y ho _ _ hx hy (by rw [← Int.natCast_mul]; omega) (by rw [← Int.natCast_mul]; omega)
theorem ex_not (w : World) (t : Nat) (x : Operand) (ho : o.op = .unOp .not t x) (b : Bool) (hx : a.eval x = .bool b) : (execOp a.eval o).run P w = .ok (.value (.bool (!b))) w := by
  unfold execOp
  simp only [ho, hx, Sem.run_bind]
  rfl
/-- xs[:n] of a slice. -/
theorem ex_cutHi (w : World) (t : Nat) (x h : Operand) (ho : o.op = .slice t x none (some h) none) {e : TypeId} (ht : P.underlying t = some (.slice e)) (sz : Nat) (hs : (P.info? e).map (·.size) = some sz) (b off len c n : Nat) (hx : a.eval x = .slice (some ⟨b, off, none⟩) len c) (k : IntKind) (hh : a.eval h = .int k (n : Int)) (hn : n ≤ c) :
    (execOp a.eval o).run P w = .ok (.value (.slice (some ⟨b, off, none⟩) n c)) w := by
  unfold execOp
  have hsz := sizeOf_run (P := P) w hs
  have c1 : (0 : Int) ≤ (n : Int) ∧ (n : Int) ≤ (c : Int) := by omega
  simp only [ho, hx, hh, Instr.sliceAt, Option.map_none, Option.map_some, Sem.run_bind, run_underlying ht, Result.andThen_ok, Instr.slice, Sem.run_pure, Instr.sliceBounds, Instr.sliceBound, asIntOf, c1, and_self, if_true, Int.toNat_natCast, hsz, Nat.zero_mul, Addr.add_mid, Nat.add_zero, ite_self, Nat.sub_zero]
/-- xs[n:] of a slice that goes on behind n. -/
theorem er_cutLo (w : World) (t : Nat) (x l : Operand) (ho : o.op = .slice t x (some l) none none) {e : TypeId} (ht : P.underlying t = some (.slice e)) (sz : Nat) (hs : (P.info? e).map (·.size) = some sz) (b off len c n r : Nat) (hr : off + n * sz = r) (hx : a.eval x = .slice (some ⟨b, off, none⟩) len c) (k : IntKind) (hh : a.eval l = .int k (n : Int)) (hn : n ≤ len) (hc : n < c) :
    (execOp a.eval o).run P w = .ok (.value (.slice (some ⟨b, r, none⟩) (len - n) (c - n))) w := by
  subst hr
  unfold execOp
  have hsz := sizeOf_run (P := P) w hs
  have c1 : (0 : Int) ≤ (n : Int) ∧ (n : Int) ≤ (len : Int) := by omega
  have n0 : ¬ c = n := by omega
  simp only [ho, hx, hh, Instr.sliceAt, Option.map_none, Option.map_some, Sem.run_bind, run_underlying ht, Result.andThen_ok, Instr.slice, Sem.run_pure, Instr.sliceBounds, Instr.sliceBound, asIntOf, c1, and_self, if_true, Int.toNat_natCast, hsz, n0, if_false, Addr.add_mid]
/-- xs[n:] of a slice, wherever n lies: what is left is empty at its end. -/
theorem er_cutLoAny (w : World) (t : Nat) (x l : Operand) (ho : o.op = .slice t x (some l) none none) {e : TypeId} (ht : P.underlying t = some (.slice e)) (sz : Nat) (hs : (P.info? e).map (·.size) = some sz) (b off len c n r : Nat) (hr : (if c = n then off else off + n * sz) = r) (hx : a.eval x = .slice (some ⟨b, off, none⟩) len c) (k : IntKind) (hh : a.eval l = .int k (n : Int)) (hn : n ≤ len) :
    (execOp a.eval o).run P w = .ok (.value (.slice (some ⟨b, r, none⟩) (len - n) (c - n))) w := by
  subst hr
  unfold execOp
  have hsz := sizeOf_run (P := P) w hs
  have c1 : (0 : Int) ≤ (n : Int) ∧ (n : Int) ≤ (len : Int) := by omega
  by_cases n0 : c = n
  · simp only [ho, hx, hh, Instr.sliceAt, Option.map_none, Option.map_some, Sem.run_bind, run_underlying ht, Result.andThen_ok, Instr.slice, Sem.run_pure, Instr.sliceBounds, Instr.sliceBound, asIntOf, c1, and_self, if_true, Int.toNat_natCast, hsz, n0, Addr.add_mid]
  · simp only [ho, hx, hh, Instr.sliceAt, Option.map_none, Option.map_some, Sem.run_bind, run_underlying ht, Result.andThen_ok, Instr.slice, Sem.run_pure, Instr.sliceBounds, Instr.sliceBound, asIntOf, c1, and_self, if_true, Int.toNat_natCast, hsz, n0, if_false, Addr.add_mid]
/-- xs[m:n] of a slice. -/
theorem er_cut (w : World) (t : Nat) (x l h : Operand) (ho : o.op = .slice t x (some l) (some h) none) {e : TypeId} (ht : P.underlying t = some (.slice e)) (sz : Nat) (hs : (P.info? e).map (·.size) = some sz) (b off len c m n r : Nat) (hr : off + m * sz = r) (hx : a.eval x = .slice (some ⟨b, off, none⟩) len c) (k k2 : IntKind) (hl : a.eval l = .int k (m : Int)) (hh : a.eval h = .int k2 (n : Int)) (hm : m ≤ n) (hn : n ≤ c) (hc : m < c) :
    (execOp a.eval o).run P w = .ok (.value (.slice (some ⟨b, r, none⟩) (n - m) (c - m))) w := by
  subst hr
  unfold execOp
  have hsz := sizeOf_run (P := P) w hs
  have c1 : (0 : Int) ≤ (m : Int) ∧ (m : Int) ≤ (n : Int) := by omega
  have c2 : (0 : Int) ≤ (n : Int) ∧ (n : Int) ≤ (c : Int) := by omega
  have n0 : ¬ c = m := by omega
  simp only [ho, hx, hl, hh, Instr.sliceAt, Option.map_none, Option.map_some, Sem.run_bind, run_underlying ht, Result.andThen_ok, Instr.slice, Sem.run_pure, Instr.sliceBounds, Instr.sliceBound, asIntOf, c1, c2, and_self, if_true, Int.toNat_natCast, hsz, n0, if_false, Addr.add_mid]
/-- A slice literal of one element. -/
theorem ex_bs1 (w : World) (t e : TypeId) (x : Operand) (ho : o.op = .buildSlice t 1 #[(0, x)]) (ht : P.underlying t = some (.slice e)) (vs : List Value) (hx : (a.eval x).cells = vs.toArray) (z : Value) (zs : List Value) (hz : (zeroValue e).run P w = .ok z w) (hzc : z.cells = zs.toArray)
    (hi : (P.info? e).map (·.size) = some vs.length) (hl : zs.length = vs.length) (h0 : 0 < vs.length) (hm : vs.length ≤ 16777216) :
    (execOp a.eval o).run P w = .ok (.value (.slice (some ⟨w.heap.size, 0, none⟩) 1 1)) (w.alloc (.cells vs.toArray e)) := by
  unfold execOp
  simp only [ho, Sem.run_bind]
  have hsz := sizeOf_run (P := P) w hi
  have hfill := fill_step (fun i => some (i * vs.length, vs.length)) zs vs 0 0 (a.eval x) hx [] (by simp) (by omega)
  have hrange : ((Array.range (1 * vs.length)).map (zs.toArray[· % zs.toArray.size]!)) = zs.toArray := by
    apply Array.ext'
    apply List.ext_getElem?
    intro i
    simp only [Array.toList_map, Array.toList_range, List.getElem?_map, Nat.one_mul, List.size_toArray]
    rcases Nat.lt_or_ge i vs.length with h | h
    · rw [List.getElem?_range h]
      simp only [Option.map_some]
      rw [hl, Nat.mod_eq_of_lt h, List.getElem?_eq_getElem (by omega)]
      simp [hl, h]
    · rw [List.getElem?_eq_none (by simpa using h), List.getElem?_eq_none (by omega)]; rfl
  have : (Instr.buildSlice t 1 #[(0, a.eval x)]).run P w = .ok (.slice (some ⟨w.heap.size, 0, none⟩) 1 1) (w.alloc (.cells vs.toArray e)) := by
    unfold Instr.buildSlice
    simp only [Sem.run_bind, run_underlying ht, Result.andThen_ok, hsz]
    have n1 : ¬ (1 * vs.length > 2 ^ 24) := by omega
    have n2 : ¬ (1 * vs.length = 0) := by omega
    simp only [n1, n2, if_false, Sem.run_bind, hz, Sem.run_pure, Result.andThen_ok, hzc, hrange, hfill, splice_all zs vs hl.symm]
    simp [Instr.fill, newRow, newObj, Sem.run]
  have he : (#[(0, x)] : Array (Nat × Operand)).map (fun (i, x) => (i, a.eval x)) = #[(0, a.eval x)] := by simp
  rw [he, this]
  rfl
end
end Go.Proofs.YtkcechpaeilaeaaGreatDoor
