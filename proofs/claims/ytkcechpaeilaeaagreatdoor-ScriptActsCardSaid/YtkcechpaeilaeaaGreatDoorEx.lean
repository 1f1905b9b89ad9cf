/- Small operations: what each yields. Nothing here names the program. -/
import Derived.Test.YtkcechpaeilaeaaGreatDoorApp
namespace Go.Proofs.YtkcechpaeilaeaaGreatDoor
open Go.RowKit
set_option linter.unusedVariables false
set_option linter.unusedSimpArgs false
variable {P : Program} {ops : Array Oper} {rest : List Oper} {o : Oper} {a : Act} {Q : Exit → Act → World → Prop} {K : Act → World → Prop}

theorem ex_move (w : World) (x : Operand) (v : Value) (ho : o.op = .move x) (hx : a.eval x = v) : (execOp a.eval o).run P w = .ok (.value v) w := by
  unfold execOp; rw [ho]; simp only [hx]; rfl
theorem ex_nilCheck (w : World) (x : Operand) (ad : Addr) (ho : o.op = .nilCheck x) (hx : a.eval x = .pointer (some ad)) : (execOp a.eval o).run P w = .ok (.value (.pointer (some ad))) w := by
  unfold execOp; simp only [ho, hx]; rfl
theorem ex_field (w : World) (s k : Nat) (x : Operand) (ho : o.op = .fieldAddr s x k) (b off n f_off : Nat) {fs : Array Field} {f : Field} (ht : P.underlying s = some (.struct fs)) (hf : fs[k]? = some f) (hn : (P.info? f.type).map (·.size) = some (n + 1)) (hoff : f.offset = f_off)
    (hx : a.eval x = .pointer (some ⟨b, off, none⟩)) : (execOp a.eval o).run P w = .ok (.value (.pointer (some ⟨b, off + f_off, none⟩))) w := by
  subst hoff
  unfold execOp
  simp only [ho, hx, Instr.fieldAt, Sem.run_bind, run_underlying ht, Result.andThen_ok, hf, Instr.sureAddr, Sem.run_pure, fieldPlace]
  have hs : (sizeOf f.type).run P w = .ok (n + 1) w := by
    cases hq : P.info? f.type with
    | none => rw [hq] at hn; simp at hn
    | some i => rw [hq] at hn; simp at hn; simp [sizeOf, typeInfo, hq, hn]
  simp only [hs, Result.andThen_ok, Sem.run_bind, Nat.add_one_ne_zero, if_false, Sem.run_pure, Addr.add_mid]
theorem ex_load (w : World) (t : Nat) (x : Operand) (v : Value) (ho : o.op = .load t x) (ad : Addr) {d : TypeDesc} (hu : P.underlying t = some d) (hd : d.isRow = false) (hx : a.eval x = .pointer (some ad)) (hc : w.cell? ad = some v) :
    (execOp a.eval o).run P w = .ok (.value v) w := by
  unfold execOp
  simp only [ho, hx, Instr.loadAt, Instr.sureAddr, loadVar, Sem.run_bind, Sem.run_pure, Result.andThen_ok]
  have ha : (isAgg t).run P w = .ok false w := by
    unfold isAgg
    rw [Sem.run_bind, run_underlying hu]
    cases d <;> simp_all [TypeDesc.isRow]
  simp only [ha, Result.andThen_ok, Bool.false_eq_true, if_false, load, Sem.run, hc]
theorem ex_toArray (w : World) (t : Nat) (x : Operand) (ho : o.op = .sliceToArrayPointer t x) (n : Nat) {e : TypeId} (ht : P.underlying t = some (.array n e)) (A : Option Addr) (len c : Nat) (hx : a.eval x = .slice A len c) (hn : n ≤ len) :
    (execOp a.eval o).run P w = .ok (.value (.pointer A)) w := by
  unfold execOp
  simp only [ho, hx, Instr.arrayAt, Sem.run_bind, run_underlying ht, Result.andThen_ok]
  rw [if_neg (by omega)]
  rfl
theorem ex_index (w : World) (t e : Nat) (x i : Operand) (ho : o.op = .indexAddr t x i) (size n : Nat) (ht : P.underlying t = some (.slice e)) (hs : (P.info? e).map (·.size) = some size) (b off len c : Nat) (hx : a.eval x = .slice (some ⟨b, off, none⟩) len c) (k : IntKind) (hi : a.eval i = .int k (n : Int)) (hn : n < len) :
    (execOp a.eval o).run P w = .ok (.value (.pointer (some ⟨b, off + n * size, none⟩))) w := by
  unfold execOp
  have hsz : (sizeOf e).run P w = .ok size w := by
    cases hq : P.info? e with
    | none => rw [hq] at hs; simp at hs
    | some i => rw [hq] at hs; simp at hs; simp [sizeOf, typeInfo, hq, hs]
  have c1 : (0 : Int) ≤ (n : Int) ∧ (n : Int) < (len : Int) := by omega
  simp only [ho, hx, hi, Instr.indexAt, asIntOf, Sem.run_bind, run_underlying ht, Result.andThen_ok, Sem.run_pure]
  simp only [c1, and_self, if_true, Sem.run_bind, hsz, Result.andThen_ok, Sem.run_pure, Int.toNat_natCast, Addr.add_mid]
/-- A product of ints that fits. -/
theorem ex_mul (w : World) (t t2 : Nat) (x y : Operand) (ho : o.op = .binOp .mul t x y t2) (p q : Int) (hx : a.eval x = .int .i64 p) (hy : a.eval y = .int .i64 q) (h0 : -9223372036854775808 ≤ p * q) (h1 : p * q ≤ 9223372036854775807) :
    (execOp a.eval o).run P w = .ok (.value (.int .i64 (p * q))) w := by
  unfold execOp
  have hw : IntKind.i64.wrap (p * q) = p * q := by rw [IntKind.wrap_i64]; omega
  simp only [ho, hx, hy, Sem.run_bind]
  have hg : (eqGuard .mul t x y (.int .i64 p) (.int .i64 q)).run P w = .ok () w := by rfl
  have hb : (binOp .mul t (.int .i64 p) (.int .i64 q)).run P w = .ok (.int .i64 (p * q)) w := by
    simp only [binOp, Op.intArith, hw, ne_eq, not_true_eq_false, if_false]
    rfl
  rw [hg]
  simp only [Result.andThen_ok, hb]
  rfl
/-- A slice from its n-th element on. -/
theorem ex_sliceFrom (w : World) (t : Nat) (x l : Operand) (ho : o.op = .slice t x (some l) none none) {e : TypeId} (ht : P.underlying t = some (.slice e)) (sz : Nat) (hs : (P.info? e).map (·.size) = some sz) (b off len c n : Nat) (hx : a.eval x = .slice (some ⟨b, off, none⟩) len c) (k : IntKind) (hh : a.eval l = .int k (n : Int)) (hn : n < len) (hc : len ≤ c) :
    (execOp a.eval o).run P w = .ok (.value (.slice (some ⟨b, off + n * sz, none⟩) (len - n) (c - n))) w := by
  unfold execOp
  have hsz : (sizeOf e).run P w = .ok sz w := by
    cases hq : P.info? e with
    | none => rw [hq] at hs; simp at hs
    | some i => rw [hq] at hs; simp at hs; simp [sizeOf, typeInfo, hq, hs]
  have c1 : (0 : Int) ≤ (n : Int) ∧ (n : Int) ≤ (len : Int) := by omega
  have n0 : ¬ c = n := by omega
  simp only [ho, hx, hh, Instr.sliceAt, Option.map_none, Option.map_some, Sem.run_bind, run_underlying ht, Result.andThen_ok, Instr.slice, Sem.run_pure, Instr.sliceBounds, Instr.sliceBound, asIntOf, c1, and_self, if_true, Int.toNat_natCast, hsz, n0, if_false, Addr.add_mid]
/-- The first n cells of an array behind a pointer. -/
theorem ex_sliceTo (w : World) (t : Nat) (x h : Operand) (ho : o.op = .slice t x none (some h) none) (N n : Nat) {e : TypeId} (ht : P.underlying t = some (.array N e)) {sz : Nat} (hs : (P.info? e).map (·.size) = some sz) (b off : Nat) (hx : a.eval x = .pointer (some ⟨b, off, none⟩)) (k : IntKind) (hh : a.eval h = .int k (n : Int)) (hn : n ≤ N) (hN : 0 < N) :
    (execOp a.eval o).run P w = .ok (.value (.slice (some ⟨b, off, none⟩) n N)) w := by
  unfold execOp
  have hsz : (sizeOf e).run P w = .ok sz w := by
    cases hq : P.info? e with
    | none => rw [hq] at hs; simp at hs
    | some i => rw [hq] at hs; simp at hs; simp [sizeOf, typeInfo, hq, hs]
  have c1 : (0 : Int) ≤ (n : Int) ∧ (n : Int) ≤ (N : Int) := by omega
  have n0 : ¬ N = 0 := by omega
  simp only [ho, hx, hh, Instr.sliceAt, Option.map_none, Option.map_some, Sem.run_bind, run_underlying ht, Result.andThen_ok, Instr.sureAddr, Sem.run_pure, Instr.sliceBounds, Instr.sliceBound, asIntOf, c1, and_self, if_true, Int.toNat_natCast, hsz, n0, if_false, Nat.sub_zero, Nat.zero_mul, Addr.add_mid, Nat.add_zero]
/-- copy, out of one block into another one. -/
theorem ex_copy (w : World) (t : Nat) (x y : Operand) (ho : o.op = .call { callee := .builtin .copy, args := #[x, y], argTypes := #[t, t] }) {e : TypeId} (ht : P.underlying t = some (.slice e)) (hs : (P.info? e).map (·.size) = some 1)
    (b off n c b2 off2 c2 : Nat) (bt : TypeId) (old cs : List Value) (hx : a.eval x = .slice (some ⟨b, off, none⟩) n c) (hy : a.eval y = .slice (some ⟨b2, off2, none⟩) n c2) (hb : Blk w b old bt) (hl : cs.length = n) (hn : off + n ≤ old.length) (hsrc : w.rangeAt b2 off2 cs) (h1 : ∀ v ∈ cs, v.oneCell' = true) :
    ∃ w', (execOp a.eval o).run P w = .ok (.value (.int .i64 n)) w' ∧ Blk w' b (splice old off cs) bt ∧ Kp (· = b) w w' ∧ w'.heap.size = w.heap.size := by
  subst hl
  refine ⟨w.setCells b off cs, ?_, hb.setCells cs off hn, Kp.setCells (S := (· = b)) b (.inr rfl) cs off (Kp.refl _ _), setCells_size b cs off w⟩
  unfold execOp
  have hsz : (sizeOf e).run P w = .ok 1 w := by
    cases hq : P.info? e with
    | none => rw [hq] at hs; simp at hs
    | some i => rw [hq] at hs; simp at hs; simp [sizeOf, typeInfo, hq, hs]
  have hf := run_firstCells_some (P := P) w 1 cs.length ⟨b2, off2, none⟩ cs.length c2 cs (by simp) (fun j v hv => by rw [Addr.add_mid]; exact hsrc j v hv)
  have hst := run_storeCells_cells (P := P) b off cs 0 w (fun j hj => by simpa using (hb.there off cs.length hn j hj).1) (fun j hj => by simpa using (hb.there off cs.length hn j hj).2) h1
  simp only [Nat.add_zero] at hst
  simp only [ho, resolve, invoke, builtin, Sem.run_bind, Sem.run_pure, Result.andThen_ok, List.map_toArray, List.map_cons, List.map_nil, hx, hy]
  have : (Builtin.copy_ #[t, t] o.type #[.slice (some ⟨b, off, none⟩) cs.length c, .slice (some ⟨b2, off2, none⟩) cs.length c2]).run P w = .ok (.int .i64 cs.length) (w.setCells b off cs) := by
    have hmin : Nat.min cs.length cs.length = cs.length := Nat.min_self _
    simp [Builtin.copy_, run_underlying ht, Builtin.lenOf, hmin, hsz, hf, hst, goInt]
  rw [this]
  rfl
theorem ow_copy {w : World} (t : Nat) (x y : Operand) (ho : o.op = .call { callee := .builtin .copy, args := #[x, y], argTypes := #[t, t] }) {e : TypeId} (ht : P.underlying t = some (.slice e)) (hs : (P.info? e).map (·.size) = some 1)
    (b off n c b2 off2 c2 : Nat) (bt : TypeId) (old cs : List Value) (hx : a.eval x = .slice (some ⟨b, off, none⟩) n c) (hy : a.eval y = .slice (some ⟨b2, off2, none⟩) n c2) (hb : Blk w b old bt) (hl : cs.length = n) (hn : off + n ≤ old.length) (hsrc : w.rangeAt b2 off2 cs) (h1 : ∀ v ∈ cs, v.oneCell' = true)
    (h : ∀ w', Hd (Blk w' b (splice old off cs) bt ∧ Kp (· = b) w w' ∧ w'.heap.size = w.heap.size) → K (a.put o.dst (.int .i64 n)) w') : o.wp P a w K Q := by
  obtain ⟨w', hr, h2, h3, h4⟩ := ex_copy w t x y ho ht hs b off n c b2 off2 c2 bt old cs hx hy hb hl hn hsrc h1
  exact ow_run hr (h w' ⟨h2, h3, h4⟩)
theorem ow_store {w : World} (t : Nat) (x y : Operand) (v old : Value) (ho : o.op = .store t x y) (ad : Addr) (hi : (P.info? t).map (·.size) = some 1) (hx : a.eval x = .pointer (some ad)) (hy : a.eval y = v) (hv : v.cells = #[v]) (h1 : v.oneCell' = true)
    (hc : w.cell? ad = some old) (hf : w.frozen? ad = false) (h : K (a.put o.dst undef) (w.setCell ad v)) : o.wp P a w K Q := by
  refine ow_skip (w' := w.setCell ad v) ?_ h
  unfold execOp
  simp only [ho, hx, hy, Instr.storeAt, Instr.sureAddr, storeVar, Sem.run_bind, Sem.run_pure, Result.andThen_ok]
  have hs : (sizeOf t).run P w = .ok 1 w := by
    cases hq : P.info? t with
    | none => rw [hq] at hi; simp at hi
    | some i => rw [hq] at hi; simp at hi; simp [sizeOf, typeInfo, hq, hi]
  have hadd : ad.add 0 = ad := by simp [Addr.add]
  have hst : (storeCells ad [v]).run P w = .ok () (w.setCell ad v) := by
    unfold storeCells
    rw [Sem.run_bind]
    have : (store (ad.add 0) v).run P w = .ok () (w.setCell ad v) := by
      rw [hadd]
      cases v <;> first | (simp [Value.oneCell'] at h1; done) | (simp [store, Sem.run, hc, hf]; done)
    rw [this]
    rfl
  simp only [hs, Result.andThen_ok, hv, List.size_toArray, List.length_cons, List.length_nil, Nat.reduceAdd, Nat.zero_add, ne_eq, not_true_eq_false, if_false, hst]
end Go.Proofs.YtkcechpaeilaeaaGreatDoor
