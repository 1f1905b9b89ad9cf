/- Bytes of one's own, laid since block b was the next one: append, and what a new row is. -/
import Derived.Test.YtkcechpaeilaeaaGreatDoorTa
import Derived.Test.YtkcechpaeilaeaaGreatDoorB1
namespace Go.Proofs.YtkcechpaeilaeaaGreatDoor
open Go.RowKit
set_option linter.unusedVariables false
set_option linter.unusedSimpArgs false
variable {ops : Array Oper} {rest : List Oper} {o : Oper} {a : Act} {Q : Exit → Act → World → Prop} {K : Act → World → Prop}

theorem ownsRow_keep {w w' : World} {base : Nat} {e : TypeId} {size n : Nat} {v : Value} {xs : List Value} (h : w.ownsRow base e size v n xs) (hb : ∀ k, v.ownBlock = some k → k < w.heap.size → w'.heap[k]? = w.heap[k]?) : w'.ownsRow base e size v n xs := by
  obtain ⟨h1, h2⟩ := h
  refine ⟨h1, ?_⟩
  rcases h2 with h2 | ⟨g, cap, cur, rfl, hg, hh, r⟩
  · exact .inl h2
  · exact .inr ⟨g, cap, cur, rfl, hg, (hb g rfl (blk_lt hh)).trans hh, r⟩
structure Ob (b : Nat) (w : World) (v : Value) (l : List Int) : Prop where
  own : w.ownsRow 0 5 1 v l.length (u8s l)
  new : ∀ k, v.ownBlock = some k → b ≤ k
theorem Ob.bs {b : Nat} {w : World} {v : Value} {l : List Int} (h : Ob b w v l) : Bs w v l := ownsRow_Bs' rfl h.own
theorem Ob.nil (b : Nat) (w : World) : Ob b w (.slice none 0 0) [] := ⟨⟨rfl, .inl ⟨rfl, rfl⟩⟩, fun k hk => by cases hk⟩
theorem Ob.fresh (w : World) (b : Nat) (hb : b ≤ w.heap.size) : Ob b (w.alloc (.cells #[] 5)) (.slice (some ⟨w.heap.size, 0, none⟩) 0 0) [] :=
  ⟨⟨rfl, .inr ⟨w.heap.size, 0, #[], rfl, Nat.zero_le _, _root_.Go.heap_alloc_new w _, Nat.le_refl _, Nat.zero_le _, rfl, rfl⟩⟩, fun k hk => by cases hk; exact hb⟩
theorem Ob.keep {b : Nat} {w w' : World} {v : Value} {l : List Int} (h : Ob b w v l) (hk : Kp (fun _ => False) w w') : Ob b w' v l :=
  ⟨ownsRow_keep h.own (fun k hk' hs => hk.block k hs id), h.new⟩
theorem Kp.toBelow {S : Nat → Prop} {w w' : World} {b : Nat} (h : Kp S w w') (hb : b ≤ w.heap.size) (hS : ∀ k, S k → b ≤ k) : Below b w w' :=
  ⟨h.os, h.tape, h.output, h.size, fun k hk => by
    refine h.block k (by omega) (fun hs => ?_)
    have := hS k hs
    omega⟩
theorem Kp.see {S : Nat → Prop} {w w' : World} (h : Kp S w w') {ad : Addr} {v : Value} (hc : w.cell? ad = some v) (hs : ¬ S ad.block) : w'.cell? ad = some v := by
  rw [World.cell?_of_block (w := w) (w' := w') (h.block _ (World.block_lt_of_cell? w _ hc) hs)]; exact hc
theorem bsee {b : Nat} {w w' : World} (h : Below b w w') {ad : Addr} {v : Value} (hc : w.cell? ad = some v) (hb : ad.block < b) : w'.cell? ad = some v := by
  rw [World.cell?_of_block (w := w) (w' := w') (h.block _ hb)]; exact hc
theorem bs_at {w : World} {A : Option Addr} {n cp : Nat} {l : List UInt8} (h : Bs w (.slice A n cp) (ints l)) {k : Nat} (hk : k < l.length) : ∃ b o, A = some ⟨b, o, none⟩ ∧ w.cell? ⟨b, o + k, none⟩ = some (.int .u8 (l[k].toNat : Int)) ∧ b < w.heap.size := by
  obtain ⟨A', cp', hA, hc', hr⟩ := h
  injection hA with hA1 hA2 hA3
  subst hA1
  rcases hr with e | ⟨b, o, e, h⟩
  · have : (ints l).length = 0 := by rw [e]; rfl
    rw [ints_length] at this
    omega
  · have hc := h k _ (ints_get l k hk)
    exact ⟨b, o, e, hc, World.block_lt_of_cell? w _ hc⟩
theorem ow_ob {b : Nat} {w : World} (s x : Operand) (ho : o.op = .call { callee := .builtin .append, args := #[s, x], argTypes := #[22, 22] }) (v : Value) (xs : List Int) (hs : a.eval s = v) (hown : Ob b w v xs) (hb : b ≤ w.heap.size)
    (y : Value) (l : List Int) (hx : a.eval x = y) (hy : Bs w y l) (h63 : xs.length + l.length ≤ 1000000000000)
    (h : ∀ v' w', Ob b w' v' (xs ++ l) → Below b w w' → K (a.put o.dst v') w') : o.wp Tryz.prog a w K Q :=
  ow_appendBs s x 22 ho 5 Tryz.underlying22 info5b rfl v xs hs hown.own y l hx hy h63 (fun v' w' h1 h2 h3 => h v' w' ⟨h1, fun k hk => (h3 k hk).elim (hown.new k) (fun h => Nat.le_trans hb h)⟩ (h2.toBelow hb (fun k hk => hown.new k hk)))
theorem wl_ob {b : Nat} {w : World} (hg : o.guard = none) (s x : Operand) (ho : o.op = .call { callee := .builtin .append, args := #[s, x], argTypes := #[22, 22] }) (v : Value) (xs : List Int) (hs : a.eval s = v) (hown : Ob b w v xs) (hb : b ≤ w.heap.size)
    (y : Value) (l : List Int) (hx : a.eval x = y) (hy : Bs w y l) (h63 : xs.length + l.length ≤ 1000000000000)
    (h : ∀ v' w', Ob b w' v' (xs ++ l) → Below b w w' → wpList Tryz.prog ops Q rest (a.put o.dst v') w') : wpList Tryz.prog ops Q (o :: rest) a w :=
  wpList_plain hg fun _ hK => ow_ob s x ho v xs hs hown hb y l hx hy h63 (fun v' w' a b => hK _ _ (h v' w' a b))
/-- A byte behind bytes: the literal of one element, then append. -/
theorem zero5 (w : World) : (zeroValue 5).run Tryz.prog w = .ok (.int .u8 0) w := by kernel_rfl
theorem info5i : (Tryz.prog.info? 5).map (·.size) = some 1 := by kernel_rfl
theorem wl_lit1 {w : World} (hg : o.guard = none) (x : Operand) (ho : o.op = .buildSlice 22 1 #[(0, x)]) (n : Int) (hx : a.eval x = .int .u8 n)
    (h : ∀ v w', Bs w' v [n] → Kp (fun _ => False) w w' → wpList Tryz.prog ops Q rest (a.put o.dst v) w') : wpList Tryz.prog ops Q (o :: rest) a w :=
  wl_run hg (ex_bs w 22 5 1 [x] [n] ho Tryz.underlying22 rfl (by simp [u8s, hx]) info5i (zero5 w) (.inl rfl)) (h _ _ (fresh_Bs w 5 [n]) ((Kp.refl _ w).alloc _))
theorem ow_lit3 {w : World} (x y z : Operand) (ho : o.op = .buildSlice 22 3 #[(0, x), (1, y), (2, z)]) (p q r : Int) (hx : a.eval x = .int .u8 p) (hy : a.eval y = .int .u8 q) (hz : a.eval z = .int .u8 r)
    (h : ∀ v w', Bs w' v [p, q, r] → Kp (fun _ => False) w w' → K (a.put o.dst v) w') : o.wp Tryz.prog a w K Q :=
  ow_run (ex_bs w 22 5 3 [x, y, z] [p, q, r] ho Tryz.underlying22 rfl (by simp [u8s, hx, hy, hz]) info5i (zero5 w) (.inr rfl)) (h _ _ (fresh_Bs w 5 [p, q, r]) ((Kp.refl _ w).alloc _))
theorem ow_lit1 {w : World} (x : Operand) (ho : o.op = .buildSlice 22 1 #[(0, x)]) (n : Int) (hx : a.eval x = .int .u8 n)
    (h : ∀ v w', Bs w' v [n] → Kp (fun _ => False) w w' → K (a.put o.dst v) w') : o.wp Tryz.prog a w K Q :=
  ow_run (ex_bs w 22 5 1 [x] [n] ho Tryz.underlying22 rfl (by simp [u8s, hx]) info5i (zero5 w) (.inl rfl)) (h _ _ (fresh_Bs w 5 [n]) ((Kp.refl _ w).alloc _))
end Go.Proofs.YtkcechpaeilaeaaGreatDoor
