/- Operations on whole arrays, rows and maps: what each does to the world (ex_..), at a plain region's list (wl_..) and at one operation of a region that draws its order (ow_..). Nothing here names the program. -/
import Derived.Test.YtkcechpaeilaeaaGreatDoorRng
import Derived.Test.YtkcechpaeilaeaaGreatDoorReg
import Derived.Deep.WholeRow
namespace Go.Proofs.YtkcechpaeilaeaaGreatDoor
open Go.RowKit
set_option linter.unusedVariables false
set_option linter.unusedSimpArgs false
variable {P : Program} {ops : Array Oper} {rest : List Oper} {o : Oper} {a : Act} {Q : Exit → Act → World → Prop} {K : Act → World → Prop}

/-- An operation whose run is known. -/
theorem ow_run {w w' : World} {v : Value} (hr : (execOp a.eval o).run P w = .ok (.value v) w') (h : K (a.put o.dst v) w') : o.wp P a w K Q := by
  unfold Oper.wp; rw [hr]; exact h
theorem ow_skip {w w' : World} (hr : (execOp a.eval o).run P w = .ok .skip w') (h : K (a.put o.dst undef) w') : o.wp P a w K Q := by
  unfold Oper.wp; rw [hr]; exact h
theorem wl_run {w w' : World} {v : Value} (hg : o.guard = none) (hr : (execOp a.eval o).run P w = .ok (.value v) w') (h : wpList P ops Q rest (a.put o.dst v) w') : wpList P ops Q (o :: rest) a w :=
  wpList_plain hg fun _ hK => ow_run hr (hK _ _ h)
theorem wl_skip {w w' : World} (hg : o.guard = none) (hr : (execOp a.eval o).run P w = .ok .skip w') (h : wpList P ops Q rest (a.put o.dst undef) w') : wpList P ops Q (o :: rest) a w :=
  wpList_plain hg fun _ hK => ow_skip hr (hK _ _ h)

/-! ### a new variable -/
theorem ex_alloc (w : World) (t : TypeId) (ho : o.op = .alloc t) (zs : List Value) (hz : (zeroValue t).run P w = .ok (.agg zs.toArray) w) :
    (execOp a.eval o).run P w = .ok (.value (.pointer (some ⟨w.heap.size, 0, none⟩))) (w.alloc (.cells zs.toArray t)) := by
  unfold execOp
  rw [ho]
  simp only [Instr.alloc, Sem.run_bind, hz, Result.andThen_ok, newVar, newRow, newObj, Sem.run, Sem.run_pure, Value.cells]
  rfl
theorem wl_alloc {w : World} (hg : o.guard = none) (t : TypeId) (ho : o.op = .alloc t) (zs : List Value) (hz : (zeroValue t).run P w = .ok (.agg zs.toArray) w)
    (h : wpList P ops Q rest (a.put o.dst (.pointer (some ⟨w.heap.size, 0, none⟩))) (w.alloc (.cells zs.toArray t))) : wpList P ops Q (o :: rest) a w :=
  wl_run hg (ex_alloc w t ho zs hz) h

/-! ### a whole array, or struct, stored and loaded -/
theorem ex_store_new (w : World) (t : TypeId) (x y : Operand) (ho : o.op = .store t x y) (zs cs : List Value) (hx : a.eval x = .pointer (some ⟨w.heap.size, 0, none⟩)) (hy : a.eval y = .agg cs.toArray)
    (hi : (P.info? t).map (·.size) = some cs.length) (hl : zs.length = cs.length) (h1 : ∀ v ∈ cs, v.oneCell' = true) : (execOp a.eval o).run P (w.alloc (.cells zs.toArray t)) = .ok .skip (w.alloc (.cells cs.toArray t)) := by
  unfold execOp
  simp only [ho, hx, hy, Sem.run_bind]
  rw [run_storeAt_new w t zs.toArray cs.toArray (by simpa using hi) (by simpa using hl) (all_oneCell_toArray h1)]
  rfl
theorem wl_store_new {w : World} (hg : o.guard = none) (t : TypeId) (x y : Operand) (ho : o.op = .store t x y) (zs cs : List Value) (hx : a.eval x = .pointer (some ⟨w.heap.size, 0, none⟩)) (hy : a.eval y = .agg cs.toArray)
    (hi : (P.info? t).map (·.size) = some cs.length) (hl : zs.length = cs.length) (h1 : ∀ v ∈ cs, v.oneCell' = true)
    (h : wpList P ops Q rest (a.put o.dst undef) (w.alloc (.cells cs.toArray t))) : wpList P ops Q (o :: rest) a (w.alloc (.cells zs.toArray t)) :=
  wl_skip hg (ex_store_new w t x y ho zs cs hx hy hi hl h1) h
theorem ex_store_mid (w : World) (t : TypeId) (x y : Operand) (ho : o.op = .store t x y) (b off : Nat) (bt : TypeId) (old cs : List Value) (hx : a.eval x = .pointer (some ⟨b, off, none⟩)) (hy : a.eval y = .agg cs.toArray)
    (hb : Blk w b old bt) (hn : off + cs.length ≤ old.length) (hi : (P.info? t).map (·.size) = some cs.length) (h1 : ∀ v ∈ cs, v.oneCell' = true) :
    ∃ w', (execOp a.eval o).run P w = .ok .skip w' ∧ Blk w' b (splice old off cs) bt ∧ Kp (· = b) w w' ∧ w'.heap.size = w.heap.size := by
  refine ⟨w.setCells b off cs, ?_, hb.setCells cs off hn, Kp.setCells (S := (· = b)) b (.inr rfl) cs off (Kp.refl _ _), setCells_size b cs off w⟩
  unfold execOp
  simp only [ho, hx, hy, Sem.run_bind]
  rw [run_storeAt_mid w b off t cs.toArray (by simpa using hb.there off cs.length hn) (by simpa using hi) (all_oneCell_toArray h1)]
  rfl
theorem ow_store_mid {w : World} (t : TypeId) (x y : Operand) (ho : o.op = .store t x y) (b off : Nat) (bt : TypeId) (old cs : List Value) (hx : a.eval x = .pointer (some ⟨b, off, none⟩)) (hy : a.eval y = .agg cs.toArray)
    (hb : Blk w b old bt) (hn : off + cs.length ≤ old.length) (hi : (P.info? t).map (·.size) = some cs.length) (h1 : ∀ v ∈ cs, v.oneCell' = true)
    (h : ∀ w', Blk w' b (splice old off cs) bt → Kp (· = b) w w' → w'.heap.size = w.heap.size → K (a.put o.dst undef) w') : o.wp P a w K Q := by
  obtain ⟨w', h1, h2, h3, h4⟩ := ex_store_mid w t x y ho b off bt old cs hx hy hb hn hi h1
  exact ow_skip h1 (h w' h2 h3 h4)
theorem wl_store_mid {w : World} (hg : o.guard = none) (t : TypeId) (x y : Operand) (ho : o.op = .store t x y) (b off : Nat) (bt : TypeId) (old cs : List Value) (hx : a.eval x = .pointer (some ⟨b, off, none⟩)) (hy : a.eval y = .agg cs.toArray)
    (hb : Blk w b old bt) (hn : off + cs.length ≤ old.length) (hi : (P.info? t).map (·.size) = some cs.length) (h1 : ∀ v ∈ cs, v.oneCell' = true)
    (h : ∀ w', Blk w' b (splice old off cs) bt → Kp (· = b) w w' → w'.heap.size = w.heap.size → wpList P ops Q rest (a.put o.dst undef) w') : wpList P ops Q (o :: rest) a w :=
  wpList_plain hg fun _ hK => ow_store_mid t x y ho b off bt old cs hx hy hb hn hi h1 (fun w' a b c => hK _ _ (h w' a b c))
theorem ex_load_mid (w : World) (t : TypeId) (x : Operand) (ho : o.op = .load t x) (b off : Nat) (hx : a.eval x = .pointer (some ⟨b, off, none⟩)) (cs : List Value) (hc : w.rangeAt b off cs)
    {d : TypeDesc} (hu : P.underlying t = some d) (hd : d.isRow = true) (hi : (P.info? t).map (·.size) = some cs.length) : (execOp a.eval o).run P w = .ok (.value (.agg cs.toArray)) w := by
  unfold execOp
  simp only [ho, hx, Sem.run_bind, run_loadAt_mid w b off t cs d hc hu hd hi]
  rfl
theorem wl_load_mid {w : World} (hg : o.guard = none) (t : TypeId) (x : Operand) (ho : o.op = .load t x) (b off : Nat) (hx : a.eval x = .pointer (some ⟨b, off, none⟩)) (cs : List Value) (hc : w.rangeAt b off cs)
    {d : TypeDesc} (hu : P.underlying t = some d) (hd : d.isRow = true) (hi : (P.info? t).map (·.size) = some cs.length)
    (h : wpList P ops Q rest (a.put o.dst (.agg cs.toArray)) w) : wpList P ops Q (o :: rest) a w :=
  wl_run hg (ex_load_mid w t x ho b off hx cs hc hu hd hi) h

/-! ### maps with int keys -/
theorem ex_lookup (w : World) (t kt e : TypeId) (m x : Operand) (ok : Bool) (ho : o.op = .lookup t m x ok) (ht : P.underlying t = some (.map kt e)) (hk : P.underlying kt = some (.int .i64)) {z : Value} (hz : (P.info? e).map (·.zero) = some (some z))
    (b : Nat) (k : Int) (hm : a.eval m = .map (some b)) (hx : a.eval x = .int .i64 k) {L : List (Int × Value)} (hI : IMap w b L) :
    (execOp a.eval o).run P w = .ok (.value (if ok then .tuple #[(mget L k).getD z, .bool (mget L k).isSome] else (mget L k).getD z)) w := by
  unfold execOp
  simp only [ho, hm, hx, Sem.run_bind, hI.run_lookup ht hk hz k ok]
  rfl
theorem wl_lookup {w : World} (hg : o.guard = none) (t kt e : TypeId) (m x : Operand) (ok : Bool) (ho : o.op = .lookup t m x ok) (ht : P.underlying t = some (.map kt e)) (hk : P.underlying kt = some (.int .i64)) {z : Value} (hz : (P.info? e).map (·.zero) = some (some z))
    (b : Nat) (k : Int) (hm : a.eval m = .map (some b)) (hx : a.eval x = .int .i64 k) {L : List (Int × Value)} (hI : IMap w b L)
    (h : wpList P ops Q rest (a.put o.dst (if ok then .tuple #[(mget L k).getD z, .bool (mget L k).isSome] else (mget L k).getD z)) w) : wpList P ops Q (o :: rest) a w :=
  wl_run hg (ex_lookup w t kt e m x ok ho ht hk hz b k hm hx hI) h
theorem ow_update {w : World} (t kt e : TypeId) (m x y : Operand) (ho : o.op = .mapUpdate t m x y) (ht : P.underlying t = some (.map kt e)) (hk : P.underlying kt = some (.int .i64))
    (b : Nat) (k : Int) (v : Value) (hm : a.eval m = .map (some b)) (hx : a.eval x = .int .i64 k) (hy : a.eval y = v) {L : List (Int × Value)} (hI : IMap w b L)
    (h : ∀ w', IMap w' b (mput L k v) → Kp (· = b) w w' → K (a.put o.dst undef) w') : o.wp P a w K Q := by
  obtain ⟨w', hr, h1, h2⟩ := hI.run_update (P := P) ht hk k v
  refine ow_skip (w' := w') (by
    unfold execOp
    simp only [ho, hm, hx, hy, Sem.run_bind, hr]
    rfl) (h _ h1 h2)
theorem wl_update {w : World} (hg : o.guard = none) (t kt e : TypeId) (m x y : Operand) (ho : o.op = .mapUpdate t m x y) (ht : P.underlying t = some (.map kt e)) (hk : P.underlying kt = some (.int .i64))
    (b : Nat) (k : Int) (v : Value) (hm : a.eval m = .map (some b)) (hx : a.eval x = .int .i64 k) (hy : a.eval y = v) {L : List (Int × Value)} (hI : IMap w b L)
    (h : ∀ w', IMap w' b (mput L k v) → Kp (· = b) w w' → wpList P ops Q rest (a.put o.dst undef) w') : wpList P ops Q (o :: rest) a w :=
  wpList_plain hg fun _ hK => ow_update t kt e m x y ho ht hk b k v hm hx hy hI (fun w' a b => hK _ _ (h w' a b))
theorem wl_clear {w : World} (hg : o.guard = none) (t kt e : TypeId) (m : Operand) (ho : o.op = .call { callee := .builtin .clear, args := #[m], argTypes := #[t] }) (ht : P.underlying t = some (.map kt e))
    (b : Nat) (hm : a.eval m = .map (some b)) {L : List (Int × Value)} (hI : IMap w b L)
    (h : ∀ w', Hd (IMap w' b [] ∧ Kp (· = b) w w') → wpList P ops Q rest (a.put o.dst (.tuple #[])) w') : wpList P ops Q (o :: rest) a w := by
  obtain ⟨w', hr, h1, h2⟩ := hI.run_clear (P := P) (ty := o.type) ht
  refine wl_run (w' := w') hg (by
    unfold execOp
    simp only [ho, resolve, invoke, builtin, Sem.run_bind, Sem.run_pure, Result.andThen_ok, List.map_toArray, List.map_cons, List.map_nil, hm, hr]) (h _ ⟨h1, h2⟩)
theorem wl_range {w : World} (hg : o.guard = none) (t kt e : TypeId) (m : Operand) (ho : o.op = .range t m) (ht : P.underlying t = some (.map kt e)) (b : Nat) (hm : a.eval m = .map (some b)) {L : List (Int × Value)} (hI : IMap w b L)
    (h : ∀ w', Hd (IRange w' b w.heap.size L L none ∧ Kp (fun _ => False) w w' ∧ w'.heap.size = w.heap.size + 1) → wpList P ops Q rest (a.put o.dst (.pointer (some ⟨w.heap.size, 0, none⟩))) w') : wpList P ops Q (o :: rest) a w := by
  obtain ⟨w', hr, h1, h2, h3⟩ := hI.run_range (P := P) ht
  refine wl_run (w' := w') hg (by
    unfold execOp
    simp only [ho, hm, Sem.run_bind, hr]
    rfl) (h _ ⟨h1, h2, h3⟩)
theorem wl_next {w : World} (hg : o.guard = none) (x : Operand) (ho : o.op = .next x false) (b it : Nat) (hx : a.eval x = .pointer (some ⟨it, 0, none⟩)) {L todo : List (Int × Value)} {lst : Option (Int × Value)} (hI : IRange w b it L todo lst)
    (h0 : todo = [] → wpList P ops Q rest (a.put o.dst (.tuple #[.bool false])) w)
    (h : ∀ k v w', Hd ((k, v) ∈ todo ∧ IRange w' b it L (todo.filter (fun x => x.1 != k)) (some (k, v)) ∧ Kp (· = it) w w' ∧ (todo.filter (fun x => x.1 != k)).length < todo.length ∧ w'.heap.size = w.heap.size) → wpList P ops Q rest (a.put o.dst (.tuple #[.bool true, .int .i64 k, v])) w') : wpList P ops Q (o :: rest) a w := by
  rcases hI.run_next (P := P) o.type with ⟨h1, hr⟩ | ⟨k, v, w', hr, h1, h2, h3, h4, h5⟩
  · refine wl_run (w' := w) hg (by
      unfold execOp
      simp only [ho, hx, Sem.run_bind, hr]
      rfl) (h0 h1)
  · refine wl_run (w' := w') hg (by
      unfold execOp
      simp only [ho, hx, Sem.run_bind, hr]
      rfl) (h k v w' ⟨h1, h2, h3, h4, h5⟩)
theorem wl_entry {w : World} (hg : o.guard = none) (x : Operand) (ho : o.op = .entry x) (b it : Nat) (hx : a.eval x = .pointer (some ⟨it, 0, none⟩)) {L todo : List (Int × Value)} {k : Int} {v : Value} (hI : IRange w b it L todo (some (k, v)))
    (h : wpList P ops Q rest (a.put o.dst (.tuple #[.int .i64 k, v])) w) : wpList P ops Q (o :: rest) a w :=
  wl_run hg (by
    unfold execOp
    simp only [ho, hx, Sem.run_bind, hI.run_entry]
    rfl) h

/-! ### a struct built, a slice built -/
theorem foldl_splice : ∀ (vs cs : List Value) (off k : Nat), off + k + vs.length ≤ cs.length →
    (vs.zipIdx k).foldl (fun (c : Array Value) (x : Value × Nat) => c.setIfInBounds (off + x.2) x.1) cs.toArray = (splice cs (off + k) vs).toArray
  | [], cs, off, k, _ => by simp [splice_nil]
  | v :: r, cs, off, k, h => by
    simp only [List.zipIdx_cons, List.foldl_cons, List.setIfInBounds_toArray]
    rw [foldl_splice r (cs.set (off + k) v) off (k + 1) (by simp at h ⊢; omega), ← Nat.add_assoc, splice_cons (by simpa [Nat.add_assoc, Nat.add_comm 1] using h)]
theorem fill_step (place : Nat → Option (Nat × Nat)) (cs vs : List Value) (i off : Nat) (v : Value) (hv : v.cells = vs.toArray) (rest : List (Nat × Value)) (hp : place i = some (off, vs.length)) (hl : off + vs.length ≤ cs.length) :
    Instr.fill place cs.toArray ((i, v) :: rest) = Instr.fill place (splice cs off vs).toArray rest := by
  have := foldl_splice vs cs off 0 (by simpa using hl)
  simp only [Nat.add_zero] at this
  rw [Instr.fill.eq_def]
  simp only [hp, hv, List.size_toArray]
  rw [if_neg (by simp; omega), ← this]
  congr 1
  rw [← Array.foldl_toList]
  simp
theorem splice_all (cs vs : List Value) (h : vs.length = cs.length) : splice cs 0 vs = vs := by
  unfold splice
  simp [h]
/-- A struct built out of its parts. -/
theorem ex_build (w : World) (t : TypeId) (pl : List (Nat × Operand)) (ho : o.op = .build t pl.toArray) {fs : Array Field} (ht : P.underlying t = some (.struct fs)) (zs : List Value) (hz : (zeroValue t).run P w = .ok (.agg zs.toArray) w)
    (places : Array (Nat × Nat)) (hpl : (fs.mapM (m := Sem) fun (f : Field) => do pure (f.offset, ← sizeOf f.type)).run P w = .ok places w) (parts : List (Nat × Value)) (hps : (pl.map fun x => (x.1, a.eval x.2)) = parts) (cs : List Value) (hf : Instr.fill (places[·]?) zs.toArray parts = some cs.toArray) :
    (execOp a.eval o).run P w = .ok (.value (.agg cs.toArray)) w := by
  unfold execOp
  have he : (pl.toArray.map fun (i, x) => (i, a.eval x)) = parts.toArray := by rw [← hps]; simp
  simp only [ho, he, Sem.run_bind]
  have : (Instr.build t parts.toArray).run P w = .ok (.agg cs.toArray) w := by
    unfold Instr.build
    simp only [Sem.run_bind, hz, Result.andThen_ok, run_underlying ht, Value.cells]
    rw [hpl]
    simp only [Result.andThen_ok, List.toList_toArray, hf]
    rfl
  rw [this]
  rfl
/-- A slice literal of one element that is a struct or an array. -/
theorem ex_buildSlice1 (w : World) (t e : TypeId) (x : Operand) (ho : o.op = .buildSlice t 1 #[(0, x)]) (ht : P.underlying t = some (.slice e)) (vs : List Value) (hx : (a.eval x).cells = vs.toArray) (zs : List Value) (hz : (zeroValue e).run P w = .ok (.agg zs.toArray) w)
    (hi : (P.info? e).map (·.size) = some vs.length) (hl : zs.length = vs.length) (h0 : 0 < vs.length) (hm : vs.length ≤ 16777216) :
    (execOp a.eval o).run P w = .ok (.value (.slice (some ⟨w.heap.size, 0, none⟩) 1 1)) (w.alloc (.cells vs.toArray e)) := by
  unfold execOp
  simp only [ho, Sem.run_bind]
  have hsz : (sizeOf e).run P w = .ok vs.length w := by
    cases hq : P.info? e with
    | none => rw [hq] at hi; simp at hi
    | some i => rw [hq] at hi; simp at hi; simp [sizeOf, typeInfo, hq, hi]
  have hfill := fill_step (fun i => some (i * vs.length, vs.length)) zs vs 0 0 (a.eval x) hx [] (by simp) (by omega)
  have hrange : ((Array.range (1 * vs.length)).map (zs.toArray[· % zs.toArray.size]!)) = zs.toArray := by
    apply Array.ext'
    apply List.ext_getElem?
    intro i
    simp only [Array.toList_map, Array.toList_range, List.getElem?_map, Nat.one_mul, List.size_toArray]
    rcases Nat.lt_or_ge i vs.length with h | h
    · rw [List.getElem?_range h]
      simp only [Option.map_some]
      rw [hl, Nat.mod_eq_of_lt h, List.getElem?_eq_getElem (by omega)]
      simp [hl, h]
    · rw [List.getElem?_eq_none (by simpa using h), List.getElem?_eq_none (by omega)]; rfl
  have : (Instr.buildSlice t 1 #[(0, a.eval x)]).run P w = .ok (.slice (some ⟨w.heap.size, 0, none⟩) 1 1) (w.alloc (.cells vs.toArray e)) := by
    unfold Instr.buildSlice
    simp only [Sem.run_bind, run_underlying ht, Result.andThen_ok, hsz]
    have n1 : ¬ (1 * vs.length > 2 ^ 24) := by omega
    have n2 : ¬ (1 * vs.length = 0) := by omega
    simp only [n1, n2, if_false, Sem.run_bind, hz, Sem.run_pure, Result.andThen_ok, Value.cells, hrange, hfill, splice_all zs vs hl.symm]
    simp [Instr.fill, newRow, newObj, Sem.run]
  have he : (#[(0, x)] : Array (Nat × Operand)).map (fun (i, x) => (i, a.eval x)) = #[(0, a.eval x)] := by simp
  rw [he, this]
  rfl
end Go.Proofs.YtkcechpaeilaeaaGreatDoor
