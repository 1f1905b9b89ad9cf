/- What a sector may be: a table of rows of one's own beside a device. -/
import Derived.Test.YtkcechpaeilaeaaS1
import Derived.Test.YtkcechpaeilaeaaP3
import Derived.Test.YtkcechpaeilaeaaEy
namespace Go.Proofs.Ytkcechpaeilaeaa
open Go.RowKit
set_option linter.unusedVariables false
set_option linter.unusedSimpArgs false
section
variable {P : Program} {o : Oper} {a : Act}
theorem ex_indexArr (w : World) (t e : Nat) (x i : Operand) (ho : o.op = .indexAddr t x i) (size n N : Nat) (ht : P.underlying t = some (.array N e)) (hs : (P.info? e).map (·.size) = some size) (b off : Nat) (hx : a.eval x = .pointer (some ⟨b, off, none⟩)) (k : IntKind) (hi : a.eval i = .int k (n : Int)) (hn : n < N) :
    (execOp a.eval o).run P w = .ok (.value (.pointer (some ⟨b, off + n * size, none⟩))) w := by
  unfold execOp
  have hsz : (sizeOf e).run P w = .ok size w := by
    cases hq : P.info? e with
    | none => rw [hq] at hs; simp at hs
    | some i => rw [hq] at hs; simp at hs; simp [sizeOf, typeInfo, hq, hs]
  have c1 : (0 : Int) ≤ (n : Int) ∧ (n : Int) < (N : Int) := by omega
  simp only [ho, hx, hi, Instr.indexAt, asIntOf, Sem.run_bind, run_underlying ht, Result.andThen_ok, Sem.run_pure, Instr.sureAddr]
  simp only [c1, and_self, if_true, Sem.run_bind, hsz, Result.andThen_ok, Sem.run_pure, Int.toNat_natCast, Addr.add_mid]
theorem ex_neq' (w : World) (t t2 : Nat) (x y : Operand) (ho : o.op = .binOp .neq t x y t2) (k : IntKind) (p q : Int) (hx : a.eval x = .int k p) (hy : a.eval y = .int k q) (b : Bool) (hb : decide (p ≠ q) = b) : (execOp a.eval o).run P w = .ok (.value (.bool b)) w :=
  ex_cmp w .neq t t2 x y ho k p q hx hy b (by rw [← hb]; by_cases h : p = q <;> simp [Op.intCmp, h] <;> rfl) (fun _ _ => rfl) (by simp [binOp])
theorem ex_add (w : World) (t t2 : Nat) (x y : Operand) (ho : o.op = .binOp .add t x y t2) (p q : Int) (hx : a.eval x = .int .i64 p) (hy : a.eval y = .int .i64 q) (h0 : -9223372036854775808 ≤ p + q) (h1 : p + q ≤ 9223372036854775807) :
    (execOp a.eval o).run P w = .ok (.value (.int .i64 (p + q))) w := by
  unfold execOp
  have hw : IntKind.i64.wrap (p + q) = p + q := by rw [IntKind.wrap_i64]; omega
  simp only [ho, hx, hy, Sem.run_bind]
  have hg : (eqGuard .add t x y (.int .i64 p) (.int .i64 q)).run P w = .ok () w := by rfl
  have hb : (binOp .add t (.int .i64 p) (.int .i64 q)).run P w = .ok (.int .i64 (p + q)) w := by
    simp only [binOp, Op.intArith, hw, ne_eq, not_true_eq_false, if_false]
    rfl
  rw [hg]
  simp only [Result.andThen_ok, hb]
  rfl
theorem ex_not (w : World) (t : Nat) (x : Operand) (ho : o.op = .unOp .not t x) (b : Bool) (hx : a.eval x = .bool b) : (execOp a.eval o).run P w = .ok (.value (.bool (!b))) w := by
  unfold execOp
  simp only [ho, hx, Sem.run_bind]
  rfl
/-- A slice literal of one element. -/
theorem ex_bs1 (w : World) (t e : TypeId) (x : Operand) (ho : o.op = .buildSlice t 1 #[(0, x)]) (ht : P.underlying t = some (.slice e)) (vs : List Value) (hx : (a.eval x).cells = vs.toArray) (z : Value) (zs : List Value) (hz : (zeroValue e).run P w = .ok z w) (hzc : z.cells = zs.toArray)
    (hi : (P.info? e).map (·.size) = some vs.length) (hl : zs.length = vs.length) (h0 : 0 < vs.length) (hm : vs.length ≤ 16777216) :
    (execOp a.eval o).run P w = .ok (.value (.slice (some ⟨w.heap.size, 0, none⟩) 1 1)) (w.alloc (.cells vs.toArray e)) := by
  unfold execOp
  simp only [ho, Sem.run_bind]
  have hsz : (sizeOf e).run P w = .ok vs.length w := by
    cases hq : P.info? e with
    | none => rw [hq] at hi; simp at hi
    | some i => rw [hq] at hi; simp at hi; simp [sizeOf, typeInfo, hq, hi]
  have hfill := fill_step (fun i => some (i * vs.length, vs.length)) zs vs 0 0 (a.eval x) hx [] (by simp) (by omega)
  have hrange : ((Array.range (1 * vs.length)).map (zs.toArray[· % zs.toArray.size]!)) = zs.toArray := by
    apply Array.ext'
    apply List.ext_getElem?
    intro i
    simp only [Array.toList_map, Array.toList_range, List.getElem?_map, Nat.one_mul, List.size_toArray]
    rcases Nat.lt_or_ge i vs.length with h | h
    · rw [List.getElem?_range h]
      simp only [Option.map_some]
      rw [hl, Nat.mod_eq_of_lt h, List.getElem?_eq_getElem (by omega)]
      simp [hl, h]
    · rw [List.getElem?_eq_none (by simpa using h), List.getElem?_eq_none (by omega)]; rfl
  have : (Instr.buildSlice t 1 #[(0, a.eval x)]).run P w = .ok (.slice (some ⟨w.heap.size, 0, none⟩) 1 1) (w.alloc (.cells vs.toArray e)) := by
    unfold Instr.buildSlice
    simp only [Sem.run_bind, run_underlying ht, Result.andThen_ok, hsz]
    have n1 : ¬ (1 * vs.length > 2 ^ 24) := by omega
    have n2 : ¬ (1 * vs.length = 0) := by omega
    simp only [n1, n2, if_false, Sem.run_bind, hz, Sem.run_pure, Result.andThen_ok, hzc, hrange, hfill, splice_all zs vs hl.symm]
    simp [Instr.fill, newRow, newObj, Sem.run]
  have he : (#[(0, x)] : Array (Nat × Operand)).map (fun (i, x) => (i, a.eval x)) = #[(0, a.eval x)] := by simp
  rw [he, this]
  rfl
end
theorem info23n : (Try.prog.info? 23).map (·.size) = some 1 := by kernel_rfl
theorem info31n : (Try.prog.info? 31).map (·.size) = some 4 := by kernel_rfl
def Z32 : List Value := List.replicate 32 (Value.slice none 0 0)
theorem zero32 (w : World) : (zeroValue 32).run Try.prog w = .ok (.agg Z32.toArray) w := by kernel_rfl

/-- A table of 32 rows of bytes of one's own, that share nothing. -/
structure MayAt (w : World) (B : Nat) (vs : List Value) (g : Nat → List Int) : Prop where
  len : vs.length = 32
  blk : Blk w B vs 32
  row : ∀ i v, vs[i]? = some v → w.ownsRow 0 5 1 v (g i).length (u8s (g i))
  apart : ∀ (i j : Nat) (vi vj : Value) (b : Nat), i ≠ j → vs[i]? = some vi → vs[j]? = some vj → vi.ownBlock = some b → vj.ownBlock ≠ some b
theorem ownsRow_inblk {w : World} {base : Nat} {e : TypeId} {size n : Nat} {v : Value} {xs : List Value} (h : w.ownsRow base e size v n xs) {k : Nat} (hk : v.ownBlock = some k) : k < w.heap.size := (h.lt k hk).2
theorem MayAt.keep {w w' : World} {B : Nat} {vs : List Value} {g : Nat → List Int} (h : MayAt w B vs g) (hB : w'.heap[B]? = w.heap[B]?) (hr : ∀ v ∈ vs, ∀ b, v.ownBlock = some b → w'.heap[b]? = w.heap[b]?) : MayAt w' B vs g where
  len := h.len
  blk := hB.trans h.blk
  row := fun i v hv => ownsRow_keep (h.row i v hv) (fun b hb _ => hr v (List.mem_of_getElem? hv) b hb)
  apart := h.apart
theorem MayAt.old {w w' : World} {B : Nat} {vs : List Value} {g : Nat → List Int} (h : MayAt w B vs g) (k : Old w w') : MayAt w' B vs g :=
  h.keep (k.block B (blk_lt h.blk) id) (fun v hv b hb => by
    obtain ⟨i, hi, e⟩ := List.getElem_of_mem hv
    exact k.block b (ownsRow_inblk (h.row i v (by rw [List.getElem?_eq_getElem hi, e])) hb) id)
theorem MayAt.ne {w : World} {B : Nat} {vs : List Value} {g : Nat → List Int} (h : MayAt w B vs g) {v : Value} (hv : v ∈ vs) {b : Nat} (hb : v.ownBlock = some b) : b ≠ B := fun e => by
  subst e
  obtain ⟨i, hi, e⟩ := List.getElem_of_mem hv
  obtain ⟨cells, hc⟩ := ownsRow_typed (h.row i v (by rw [List.getElem?_eq_getElem hi, e])) hb
  have this : w.heap[b]? = some (.cells vs.toArray 32 (0, 0)) := h.blk
  rw [hc] at this
  injection this with this
  injection this with _ this _
  cases this
theorem MayAt.start (w : World) : MayAt (w.alloc (.cells Z32.toArray 32)) w.heap.size Z32 (fun _ => []) where
  len := by simp [Z32]
  blk := Blk.new w _ 32
  row := fun i v hv => by
    have := List.eq_of_mem_replicate (List.mem_of_getElem? hv)
    subst this
    exact ⟨rfl, .inl ⟨rfl, rfl⟩⟩
  apart := fun i j vi vj b _ hi _ hb => by
    have := List.eq_of_mem_replicate (List.mem_of_getElem? hi)
    subst this
    simp [Value.ownBlock] at hb
def upd (g : Nat → List Int) (i : Nat) (l : List Int) : Nat → List Int := fun j => if j = i then l else g j
/-- A row is written back to its place: it lies where it lay, or in a new block. -/
theorem MayAt.put {w w1 : World} {B i : Nat} {vs : List Value} {g : Nat → List Int} {v v' : Value} {l : List Int} (h : MayAt w B vs g) (hi : vs[i]? = some v) (hk : Kp (fun k => v.ownBlock = some k) w w1) (hr : w1.ownsRow 0 5 1 v' l.length (u8s l)) (hv : ∀ k, v'.ownBlock = some k → v.ownBlock = some k ∨ w.heap.size ≤ k) :
    MayAt (w1.setCell ⟨B, i, none⟩ v') B (vs.set i v') (upd g i l) := by
  have hB : Blk w1 B vs 32 := hk.keeps h.blk (fun e => h.ne (List.mem_of_getElem? hi) e rfl)
  have hmem := List.mem_of_getElem? hi
  have hset : ∀ b, b ≠ B → (w1.setCell ⟨B, i, none⟩ v').heap[b]? = w1.heap[b]? := fun b hb => heap_setCell_other w1 ⟨B, i, none⟩ b v' (fun e => hb e)
  have hne' : ∀ b, v'.ownBlock = some b → b ≠ B := fun b hb => by
    rcases hv b hb with h2 | h2
    · exact h.ne hmem h2
    · have := blk_lt h.blk; omega
  refine ⟨by rw [List.length_set]; exact h.len, hB.set i v', fun j u hu => ?_, fun j k vj vk b hjk hj hk' hb => ?_⟩
  · by_cases e : i = j
    · subst e
      rw [List.getElem?_set_self (List.getElem?_eq_some_iff.1 hi).1] at hu
      injection hu with hu
      subst hu
      unfold upd
      rw [if_pos rfl]
      exact ownsRow_keep hr (fun b hb _ => hset b (hne' b hb))
    · rw [List.getElem?_set_ne e] at hu
      unfold upd
      rw [if_neg (fun x => e x.symm)]
      refine ownsRow_keep (h.row j u hu) (fun b hb hl => ?_)
      rw [hset b (h.ne (List.mem_of_getElem? hu) hb)]
      exact hk.block b hl (fun e2 => h.apart i j v u b e hi hu e2 hb)
  · have hold : ∀ j vj b, i ≠ j → vs[j]? = some vj → vj.ownBlock = some b → v'.ownBlock ≠ some b := fun j vj b e hj hb h2 => by
      rcases hv b h2 with h3 | h3
      · exact h.apart i j v vj b e hi hj h3 hb
      · have := ownsRow_inblk (h.row j vj hj) hb; omega
    by_cases e : i = j
    · subst e
      rw [List.getElem?_set_self (List.getElem?_eq_some_iff.1 hi).1] at hj
      injection hj with hj
      subst hj
      rw [List.getElem?_set_ne hjk] at hk'
      exact fun h2 => hold k vk b hjk hk' h2 hb
    · rw [List.getElem?_set_ne e] at hj
      by_cases e2 : i = k
      · subst e2
        rw [List.getElem?_set_self (List.getElem?_eq_some_iff.1 hi).1] at hk'
        injection hk' with hk'
        subst hk'
        exact hold j vj b e hj hb
      · rw [List.getElem?_set_ne e2] at hk'
        exact h.apart j k vj vk b hjk hj hk' hb
/-- The table's blocks. -/
def Mine (B : Nat) (vs : List Value) (k : Nat) : Prop := k = B ∨ ∃ v ∈ vs, v.ownBlock = some k
theorem MayAt.lt {w : World} {B : Nat} {vs : List Value} {g : Nat → List Int} (h : MayAt w B vs g) {k : Nat} (hk : Mine B vs k) : k < w.heap.size := by
  rcases hk with rfl | ⟨v, hv, hb⟩
  · exact blk_lt h.blk
  · obtain ⟨i, hi, e⟩ := List.getElem_of_mem hv
    exact ownsRow_inblk (h.row i v (by rw [List.getElem?_eq_getElem hi, e])) hb
theorem Mine.put {B i : Nat} {vs : List Value} {v' : Value} {k : Nat} (h : Mine B (vs.set i v') k) : Mine B vs k ∨ v'.ownBlock = some k := by
  rcases h with rfl | ⟨v, hv, hb⟩
  · exact .inl (.inl rfl)
  · rcases List.mem_or_eq_of_mem_set hv with h | rfl
    · exact .inl (.inr ⟨v, h, hb⟩)
    · exact .inr hb
/-- A device, and a table beside it, both new since w0, and both apart from the blocks X. -/
def Md (w0 wr : World) (B d : Nat) (M : DM) (g : Nat → List Int) (X : Nat → Prop) : Prop :=
  ∃ F vs, DiskAt wr d M F ∧ MayAt wr B vs g ∧ (∀ k, F k → w0.heap.size ≤ k) ∧ (∀ k, Mine B vs k → w0.heap.size ≤ k ∧ ¬ F k ∧ ¬ X k) ∧ (∀ k, X k → k < wr.heap.size) ∧ Old w0 wr
def NoX (k : Nat) : Prop := False
section
variable {w0 w w' : World} {B d : Nat} {M : DM} {g : Nat → List Int} {X Y : Nat → Prop}
theorem Md.old (h : Md w0 w B d M g X) (k : Old w w') : Md w0 w' B d M g X := by
  obtain ⟨F, vs, h1, h2, h3, h4, h6, h5⟩ := h
  exact ⟨F, vs, h1.keep k (fun _ _ => id), h2.old k, h3, h4, fun b hb => Nat.lt_of_lt_of_le (h6 b hb) k.size, h5.trans k⟩
theorem Md.since (h : Md w0 w B d M g X) : Old w0 w := by
  obtain ⟨F, vs, h1, h2, h3, h4, h6, h5⟩ := h
  exact h5
theorem Md.ok (h : Md w0 w B d M g X) : M.Ok := by
  obtain ⟨F, vs, h1, h2, h3, h4, h6, h5⟩ := h
  exact h1.1
theorem Md.congr {g' : Nat → List Int} (h : Md w0 w B d M g X) (e : ∀ i, i < 32 → g' i = g i) : Md w0 w B d M g' X := by
  obtain ⟨F, vs, h1, h2, h3, h4, h5⟩ := h
  refine ⟨F, vs, h1, ⟨h2.len, h2.blk, fun i v hv => ?_, h2.apart⟩, h3, h4, h5⟩
  rw [e i (by have := (List.getElem?_eq_some_iff.1 hv).1; have := h2.len; omega)]
  exact h2.row i v hv
/-- Blocks that are new since are apart. -/
theorem Md.fence (h : Md w0 w B d M g X) (k : Old w w') (hY : ∀ b, Y b → w.heap.size ≤ b ∧ b < w'.heap.size) : Md w0 w' B d M g Y := by
  obtain ⟨F, vs, h1, h2, h3, h4, h6, h5⟩ := h
  exact ⟨F, vs, h1.keep k (fun _ _ => id), h2.old k, h3, fun b hb => ⟨(h4 b hb).1, (h4 b hb).2.1, fun hy => by have := (hY b hy).1; have := h2.lt hb; omega⟩, fun b hb => (hY b hb).2, h5.trans k⟩
theorem Md.drop (h : Md w0 w B d M g X) : Md w0 w B d M g NoX := by
  obtain ⟨F, vs, h1, h2, h3, h4, h6, h5⟩ := h
  exact ⟨F, vs, h1, h2, h3, fun b hb => ⟨(h4 b hb).1, (h4 b hb).2.1, id⟩, fun b hb => hb.elim, h5⟩
theorem Md.start (h : Dv w0 w d M) : Md w0 (w.alloc (.cells Z32.toArray 32)) w.heap.size d M (fun _ => []) NoX := by
  obtain ⟨⟨F, h1, h2⟩, h3⟩ := h
  refine ⟨F, _, h1.keep (X := fun _ => False) ((Kp.refl _ w).alloc _) (fun _ _ => id), MayAt.start w, h2, fun k hk => ?_, fun k hk => hk.elim, h3.alloc _⟩
  rcases hk with rfl | ⟨v, hv, hb⟩
  · exact ⟨h3.size, fun hf => by have := h1.lt _ hf; omega, id⟩
  · have := List.eq_of_mem_replicate hv
    subst this
    simp [Value.ownBlock] at hb
/-- The row at a place, as it is loaded. -/
theorem Md.row (h : Md w0 w B d M g X) {i : Nat} (hi : i < 32) : ∃ v, w.cell? ⟨B, i, none⟩ = some v ∧ w.frozen? ⟨B, i, none⟩ = false ∧ B < w.heap.size ∧ w.ownsRow 0 5 1 v (g i).length (u8s (g i)) ∧ (∀ k, v.ownBlock = some k → k ≠ B ∧ w0.heap.size ≤ k ∧ ¬ X k) ∧ ¬ X B ∧
    ∀ (w1 : World) (v' : Value) (l : List Int), Kp (fun k => v.ownBlock = some k) w w1 → w1.ownsRow 0 5 1 v' l.length (u8s l) → (∀ k, v'.ownBlock = some k → v.ownBlock = some k ∨ w.heap.size ≤ k) → Md w0 (w1.setCell ⟨B, i, none⟩ v') B d M (upd g i l) X := by
  obtain ⟨F, vs, h1, h2, h3, h4, h6, h5⟩ := h
  have hil : i < vs.length := by have := h2.len; omega
  have hg : vs[i]? = some vs[i] := List.getElem?_eq_getElem hil
  have hmem : vs[i] ∈ vs := List.getElem_mem _
  refine ⟨vs[i], by rw [Blk.cell h2.blk]; exact hg, Blk.free h2.blk i, blk_lt h2.blk, h2.row i _ hg, fun k hk => ⟨h2.ne hmem hk, (h4 k (.inr ⟨_, hmem, hk⟩)).1, (h4 k (.inr ⟨_, hmem, hk⟩)).2.2⟩, (h4 B (.inl rfl)).2.2, fun w1 v' l hk hr hv => ?_⟩
  have hrow : ∀ k, vs[i].ownBlock = some k → Mine B vs k := fun k hk => .inr ⟨_, hmem, hk⟩
  have hk2 : Kp (fun k => Mine B vs k) w (w1.setCell ⟨B, i, none⟩ v') := (hk.mono (fun k _ h => hrow k h)).setCell _ _ (.inr (.inl rfl))
  refine ⟨F, _, h1.keep hk2 (fun k hf hm => (h4 k hm).2.1 hf), h2.put hg hk hr hv, h3, fun k hm => ?_, fun b hb => Nat.lt_of_lt_of_le (h6 b hb) hk2.size, h5.andThen hk2 (fun k hlt hm => by have := (h4 k hm).1; omega)⟩
  rcases hm.put with hm | hm
  · exact h4 k hm
  · rcases hv k hm with hm | hm
    · exact h4 k (hrow k hm)
    · exact ⟨Nat.le_trans h5.size hm, fun hf => by have := h1.lt k hf; omega, fun hx => by have := h6 k hx; omega⟩
theorem md_write {w1 : World} {n K : Nat} (h : Md w0 w1 B d M g X) (hk : Old w1 w) (hc : Calm M n K) (hK : K < 1073741824) (p : Nat) (hp : p < n) (b : Nat) (t : TypeId) (l : List Int) (hl : l.length = 256) (hr : Blk w b (u8s l) t) (hb : w1.heap.size ≤ b) (hY : ∀ b, Y b → w1.heap.size ≤ b ∧ b < w.heap.size) :
    Calls Try.prog 12 #[.pointer (some ⟨d, 0, none⟩), .int .i64 p, .slice (some ⟨b, 0, none⟩) 256 256] w fun e w' => e = .returned (.int .i64 0) ∧ Md w0 w' B d (writeM M p l) g Y ∧ Kp (fun k => k < w1.heap.size) w w' := by
  obtain ⟨F, vs, h1, h2, h3, h4, hX, h5⟩ := h
  have hw := write_yes (h1.keep hk (fun _ _ => id)) p b 0 256 l hl (Blk_range hr) (fun hf => by have := h1.lt _ hf; omega) (hc.atE p hp) (by have := hc.ops; omega) (by have := hc.ws; omega)
  rw [hc.writeE] at hw
  refine hw.mono ?_
  rintro e w' ⟨rfl, ⟨F', h6, h7⟩, h8⟩
  have hm : ∀ k, Mine B vs k → k < w.heap.size := fun k hm => Nat.lt_of_lt_of_le (h2.lt hm) hk.size
  refine ⟨rfl, ⟨F', vs, h6, (h2.old hk).keep (h8.block B (hm B (.inl rfl)) (fun hf => (h4 B (.inl rfl)).2.1 hf)) (fun v hv b hb => h8.block b (hm b (.inr ⟨v, hv, hb⟩)) (fun hf => (h4 b (.inr ⟨v, hv, hb⟩)).2.1 hf)), fun k hf => ?_, fun k hm' => ⟨(h4 k hm').1, fun hf => ?_, fun hy => by have := (hY k hy).1; have := h2.lt hm'; omega⟩, fun b hb => by have := (hY b hb).2; have := h8.size; omega, (h5.trans hk).andThen h8 (fun i hi hf => by have := h3 i hf; omega)⟩, h8.mono (fun k _ hf => h1.lt k hf)⟩
  · rcases h7 k hf with h | h
    · exact h3 k h
    · have := h5.size; have := hk.size; omega
  · rcases h7 k hf with h | h
    · exact (h4 k hm').2.1 h
    · have := hm k hm'; omega
theorem md_crash (h : Md w0 w B d M g NoX) {v : Value} {pick : List Int} (hv : Bs w v pick) (hb : Bytes pick) (hF : pick ≠ [] → ∀ k, v.ownBlock = some k → k < w0.heap.size) :
    Calls Try.prog 13 #[.pointer (some ⟨d, 0, none⟩), v] w fun e w' => e = .returned (.int .i64 0) ∧ Md w0 w' B d (crashM M pick) g NoX := by
  obtain ⟨F, vs, h1, h2, h3, h4, hX, h5⟩ := h
  refine (crash_gen h1 hv hb (fun hp k hk hf => by have := hF hp k hk; have := h3 k hf; omega)).mono ?_
  rintro e w' ⟨rfl, h6, h8⟩
  exact ⟨rfl, F, vs, h6, h2.keep (h8.block B (h2.lt (.inl rfl)) (fun hf => (h4 B (.inl rfl)).2.1 hf)) (fun v hv b hb => h8.block b (h2.lt (.inr ⟨v, hv, hb⟩)) (fun hf => (h4 b (.inr ⟨v, hv, hb⟩)).2.1 hf)), h3, h4, fun b hb => hb.elim, h5.andThen h8 (fun i hi hf => by have := h3 i hf; omega)⟩
theorem md_image (h : Md w0 w B d M g X) : Calls Try.prog 14 #[.pointer (some ⟨d, 0, none⟩)] w fun e w' =>
    ∃ v, e = .returned v ∧ Bs w' v M.st.flatten ∧ Old w w' := by
  obtain ⟨F, vs, h1, h2, h3, h4, h5⟩ := h
  refine (image_at h1).mono ?_
  rintro e w' ⟨v, rfl, a, b, c⟩
  exact ⟨v, rfl, a, c⟩
theorem md_image2 (h : Md w0 w B d M g X) {img : List Int} (hi : M.st.flatten = img) {n : Nat} (hn : img.length = n + 1) : Calls Try.prog 14 #[.pointer (some ⟨d, 0, none⟩)] w fun e w' =>
    ∃ b o c, e = .returned (.slice (some ⟨b, o, none⟩) (n + 1) c) ∧ w'.rangeAt b o (u8s img) ∧ Old w w' := by
  refine (md_image h).mono ?_
  rintro e w' ⟨v, rfl, ⟨A, c, rfl, hc, hr⟩, k⟩
  rw [hi] at hr ⊢
  rcases hr with h0 | ⟨b, o, rfl, hr⟩
  · rw [h0] at hn; simp at hn
  · exact ⟨b, o, c, by rw [hn], hr, k⟩
end
end Go.Proofs.Ytkcechpaeilaeaa
