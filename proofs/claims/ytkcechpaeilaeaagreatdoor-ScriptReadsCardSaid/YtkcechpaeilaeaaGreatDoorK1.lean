/- Joined out of: Ga. -/
import Derived.WalkKit
import Derived.Test.YtkcechpaeilaeaaGreatDoorProg
import Derived.KernelRfl
import Derived.Deep.MidRow
import Derived.Laws.IdiomCopy
import Derived.Deep.QuietTactic
import Derived.BigQuiet
import Derived.Maps.RangeRun
import Derived.Maps.OwnOps
import Derived.OrdersHeld
import Derived.Deep.WholeRow
import Derived.Laws.Small
set_option linter.unusedVariables false
set_option linter.unusedSimpArgs false
namespace Go.Proofs.YtkcechpaeilaeaaGreatDoor
open Go.RowKit
structure Hd (p : Prop) : Prop where
 mk ::
 out : p
structure Kp (S : Nat → Prop) (w w' : World) : Prop where
 os : w'.os = w.os
 tape : w'.tape = w.tape
 output : w'.output = w.output
 size : w.heap.size ≤ w'.heap.size
 block : ∀ k, k < w.heap.size → ¬ S k → w'.heap[k]? = w.heap[k]?
theorem Kp.refl (S : Nat → Prop) (w : World) : Kp S w w := ⟨rfl, rfl, rfl, Nat.le_refl _, fun _ _ _ => rfl⟩
theorem Kp.mono {S S' : Nat → Prop} {w w' : World} (h : Kp S w w') (hS : ∀ k, k < w.heap.size → S k → S' k) : Kp S' w w' :=
 ⟨h.os, h.tape, h.output, h.size, fun k hk hs => h.block k hk (fun x => hs (hS k hk x))⟩
theorem Kp.andThen {S S' : Nat → Prop} {a b c : World} (h : Kp S a b) (k : Kp S' b c) (hS : ∀ i, i < a.heap.size → S' i → S i) : Kp S a c :=
 ⟨k.os.trans h.os, k.tape.trans h.tape, k.output.trans h.output, Nat.le_trans h.size k.size,
  fun i hi hs => (k.block i (Nat.lt_of_lt_of_le hi h.size) (fun x => hs (hS i hi x))).trans (h.block i hi hs)⟩
theorem Kp.drew {S : Nat → Prop} {a w : World} (h : Kp S a w) : Kp S a w.drew := ⟨h.os, h.tape, h.output, h.size, h.block⟩
theorem Kp.drewN {S : Nat → Prop} {a w : World} (h : Kp S a w) (n : Nat) : Kp S a (w.drewN n) := ⟨h.os, h.tape, h.output, h.size, h.block⟩
theorem Kp.alloc {S : Nat → Prop} {a w : World} (h : Kp S a w) (o : Obj) : Kp S a (w.alloc o) :=
 ⟨h.os, h.tape, h.output, by have := h.size; simp; omega, fun k hk hs => by rw [_root_.Go.heap_alloc_old w o (Nat.lt_of_lt_of_le hk h.size)]; exact h.block k hk hs⟩
theorem Kp.setCell {S : Nat → Prop} {a w : World} (h : Kp S a w) (p : Addr) (u : Value) (hp : a.heap.size ≤ p.block ∨ S p.block) : Kp S a (w.setCell p u) :=
 ⟨h.os, h.tape, h.output, by have := h.size; simpa using this, fun k hk hs => by
  rw [heap_setCell_other w p k u (fun e => by subst e; exact hp.elim (fun hp => by omega) hs)]; exact h.block k hk hs⟩
theorem Kp.setCells {S : Nat → Prop} {a : World} (b : Nat) (hp : a.heap.size ≤ b ∨ S b) : ∀ (vs : List Value) (o : Nat) {w : World}, Kp S a w → Kp S a (w.setCells b o vs)
 | [], _, _, h => h
 | v :: r, o, _, h => Kp.setCells b hp r (o + 1) (h.setCell ⟨b, o, none⟩ v hp)
theorem Kp.grown {S : Nat → Prop} {a w w' : World} {row : Option Nat} (h : Kp S a w) (hg : w.grownBy w' row) (hr : ∀ k, row = some k → a.heap.size ≤ k ∨ S k) : Kp S a w' :=
 ⟨hg.os.trans h.os, hg.tape.trans h.tape, hg.output.trans h.output, Nat.le_trans h.size hg.size, fun k hk hs => by
  rw [hg.block k (Nat.lt_of_lt_of_le hk h.size) (fun e => by exact (hr k e.symm).elim (fun x => by omega) hs)]; exact h.block k hk hs⟩
theorem Kp.below {w w' : World} (h : Kp (fun _ => False) w w') : Below w.heap.size w w' := ⟨h.os, h.tape, h.output, h.size, fun k hk => h.block k hk id⟩
theorem Kp.of_below {w w' : World} (h : Below w.heap.size w w') (S : Nat → Prop) : Kp S w w' := ⟨h.os, h.tape, h.output, h.size, fun k hk _ => h.block k hk⟩
theorem Kp.setObj {S : Nat → Prop} {a w : World} (h : Kp S a w) (r : Nat) (o : Obj) (hp : a.heap.size ≤ r ∨ S r) : Kp S a { w with heap := w.heap.setIfInBounds r o } :=
 ⟨h.os, h.tape, h.output, by have := h.size; simpa using this, fun k hk hs => by
  have hne : r ≠ k := fun e => by subst e; exact hp.elim (fun hp => by omega) hs
  show (w.heap.setIfInBounds r o)[k]? = _
  rw [Array.getElem?_setIfInBounds_ne hne]; exact h.block k hk hs⟩
theorem blk_lt {w : World} {b : Nat} {o : Obj} (h : w.heap[b]? = some o) : b < w.heap.size := (Array.getElem?_eq_some_iff.1 h).1
theorem Kp.keeps {S : Nat → Prop} {w w' : World} (h : Kp S w w') {b : Nat} {o : Obj} (hb : w.heap[b]? = some o) (hs : ¬ S b) : w'.heap[b]? = some o :=
 (h.block b (blk_lt hb) hs).trans hb
abbrev Blk (w : World) (b : Nat) (cs : List Value) (t : TypeId) : Prop := w.heap[b]? = some (.cells cs.toArray t (0, 0))
theorem Blk.cell {w : World} {b : Nat} {cs : List Value} {t : TypeId} (h : Blk w b cs t) (i : Nat) : w.cell? ⟨b, i, none⟩ = cs[i]? := by
 rw [cell_of_row w b i cs.toArray t (0, 0) h]; simp
theorem Blk.free {w : World} {b : Nat} {cs : List Value} {t : TypeId} (h : Blk w b cs t) (i : Nat) : w.frozen? ⟨b, i, none⟩ = false := frozen_of_row w b i _ t h
theorem Blk.set {w : World} {b : Nat} {cs : List Value} {t : TypeId} (h : Blk w b cs t) (i : Nat) (v : Value) : Blk (w.setCell ⟨b, i, none⟩ v) b (cs.set i v) t := by
 have := heap_setCell_same w b i cs.toArray t v h
 unfold Blk
 rw [this]
 congr 2
 simp
theorem Blk.other {w : World} {b : Nat} {cs : List Value} {t : TypeId} (h : Blk w b cs t) (a : Addr) (v : Value) (hne : b ≠ a.block) : Blk (w.setCell a v) b cs t := by
 unfold Blk; rw [heap_setCell_other w a b v hne]; exact h
theorem Blk.alloc {w : World} {b : Nat} {cs : List Value} {t : TypeId} (h : Blk w b cs t) (o : Obj) : Blk (w.alloc o) b cs t := by
 unfold Blk; rw [_root_.Go.heap_alloc_old w o (blk_lt h)]; exact h
theorem Blk.new (w : World) (cs : List Value) (t : TypeId) : Blk (w.alloc (.cells cs.toArray t)) w.heap.size cs t := heap_alloc_new w _
theorem Blk.range {w : World} {b : Nat} {cs : List Value} {t : TypeId} (h : Blk w b cs t) (o n : Nat) : w.rangeAt b o ((cs.drop o).take n) := fun j v hv => by
 rw [Blk.cell h]
 rw [List.getElem?_take] at hv
 split at hv
 ·rw [List.getElem?_drop] at hv; exact hv
 ·cases hv
theorem Blk.there {w : World} {b : Nat} {cs : List Value} {t : TypeId} (h : Blk w b cs t) (o n : Nat) (hn : o + n ≤ cs.length) : w.there b o n := fun j hj =>
 ⟨by rw [Blk.cell h, List.getElem?_eq_getElem (by omega)]; rfl, Blk.free h _⟩
def splice (cs : List Value) (o : Nat) (vs : List Value) : List Value := cs.take o ++ vs ++ cs.drop (o + vs.length)
theorem splice_nil (cs : List Value) (o : Nat) : splice cs o [] = cs := by simp [splice]
theorem splice_cons {cs : List Value} {o : Nat} {v : Value} {vs : List Value} (h : o + (vs.length + 1) ≤ cs.length) : splice (cs.set o v) (o + 1) vs = splice cs o (v :: vs) := by
 unfold splice
 rw [List.set_eq_take_append_cons_drop, if_pos (by omega)]
 have hl : (cs.take o).length = o := by simp; omega
 have e1 : (cs.take o ++ v :: cs.drop (o + 1)).take (o + 1) = cs.take o ++ [v] := by
  rw [List.take_append, hl]
  simp [List.take_take]
 have e2 : (cs.take o ++ v :: cs.drop (o + 1)).drop (o + 1 + vs.length) = cs.drop (o + (v :: vs).length) := by
  rw [List.drop_append, hl, show o + 1 + vs.length - o = vs.length + 1 from by omega]
  rw [List.drop_eq_nil_of_le (by omega), List.nil_append, List.drop_succ_cons, List.drop_drop]
  congr 1; simp; omega
 rw [e1, e2]
 simp
theorem Blk.setCells {b : Nat} {t : TypeId} : ∀ (vs : List Value) (o : Nat) {w : World} {cs : List Value}, Blk w b cs t → o + vs.length ≤ cs.length → Blk (w.setCells b o vs) b (splice cs o vs) t
 | [], o, w, cs, h, _ => by rw [splice_nil]; exact h
 | v :: r, o, w, cs, h, hl => by
  have := Blk.setCells r (o + 1) (h.set o v) (by simp at hl ⊢; omega)
  rw [splice_cons (by simpa [Nat.add_comm] using hl)] at this
  exact this
theorem setCells_size (b : Nat) : ∀ (vs : List Value) (o : Nat) (w : World), (w.setCells b o vs).heap.size = w.heap.size
 | [], _, _ => rfl
 | v :: r, o, w => by rw [World.setCells, setCells_size b r (o + 1) _]; simp
def u8s (l : List Int) : List Value := l.map (.int .u8)
@[simp] theorem u8s_length (l : List Int) : (u8s l).length = l.length := by simp [u8s]
theorem u8s_get (l : List Int) (i : Nat) : (u8s l)[i]? = (l[i]?).map (.int .u8) := by simp [u8s]
theorem u8s_one (l : List Int) : ∀ v ∈ u8s l, v.oneCell' = true := by
 intro v hv; obtain ⟨n, _, rfl⟩ := List.mem_map.1 hv; rfl
theorem u8s_append (a b : List Int) : u8s (a ++ b) = u8s a ++ u8s b := by simp [u8s]
def Bytes (l : List Int) : Prop := ∀ n ∈ l, 0 ≤ n ∧ n < 256
def Bs (w : World) (v : Value) (l : List Int) : Prop :=
 ∃ A c, v = .slice A l.length c ∧ l.length ≤ c ∧ (l = [] ∨ ∃ b o, A = some ⟨b, o, none⟩ ∧ w.rangeAt b o (u8s l))
theorem rangeAt_keep {w w' : World} {b o : Nat} {cs : List Value} (h : w.rangeAt b o cs) (hb : w'.heap[b]? = w.heap[b]?) : w'.rangeAt b o cs := fun j v hv => by
 rw [World.cell?_of_block (w := w) (w' := w') hb]; exact h j v hv
theorem rangeAt_lt {w : World} {b o : Nat} {cs : List Value} (h : w.rangeAt b o cs) (hne : cs ≠ []) : b < w.heap.size := by
 cases cs with
 | nil => exact absurd rfl hne
 | cons v r => exact World.block_lt_of_cell? w _ (h 0 v rfl)
theorem Bs.keep {w w' : World} {v : Value} {l : List Int} (h : Bs w v l) (hb : ∀ b, b < w.heap.size → v.ownBlock = some b → w'.heap[b]? = w.heap[b]?) : Bs w' v l := by
 obtain ⟨A, c, rfl, hc, h⟩ := h
 refine ⟨A, c, rfl, hc, ?_⟩
 rcases h with h | ⟨b, o, rfl, hr⟩
 ·exact .inl h
 ·by_cases hl : l = []
  ·exact .inl hl
  ·exact .inr ⟨b, o, rfl, rangeAt_keep hr (hb b (rangeAt_lt hr (by simpa [u8s] using hl)) rfl)⟩
end Go.Proofs.YtkcechpaeilaeaaGreatDoor
namespace Go.Proofs.YtkcechpaeilaeaaGreatDoor
open Go.RowKit
open Go.ChangeMaps (setBlock)
def ent (x : Int × Value × Nat) : MapEntry := { key := .int .i64 x.1, val := x.2.1, born := x.2.2 }
def pr (x : Int × Value × Nat) : Int × Value := (x.1, x.2.1)
def IMap (w : World) (m : Nat) (L : List (Int × Value)) : Prop :=
 ∃ (t : List (Int × Value × Nat)) (clk : Nat), w.heap[m]? = some (.map (t.map ent).toArray clk) ∧ t.map pr = L ∧ (L.map (·.1)).Nodup ∧ (t.map (·.2.2)).Nodup ∧ ∀ x ∈ t, x.2.2 < clk
def mget (L : List (Int × Value)) (k : Int) : Option Value := (L.find? (fun x => k == x.1)).map (·.2)
def mput : List (Int × Value) → Int → Value → List (Int × Value)
 | [], k, v => [(k, v)]
 | x :: r, k, v => if k = x.1 then (k, v) :: r else x :: mput r k v
theorem mget_cons (x : Int × Value) (r : List (Int × Value)) (k : Int) : mget (x :: r) k = if k = x.1 then some x.2 else mget r k := by
 unfold mget
 rw [List.find?_cons]
 by_cases h : k = x.1
 ·subst h; simp
 ·have : (k == x.1) = false := by simpa using h
  rw [this, if_neg h]
theorem mget_mput (L : List (Int × Value)) (k : Int) (v : Value) (j : Int) : mget (mput L k v) j = if j = k then some v else mget L j := by
 induction L with
 | nil => rw [mput, mget_cons]
 | cons x r ih =>
  unfold mput
  by_cases h : k = x.1
  ·rw [if_pos h, mget_cons, mget_cons, ← h]
   by_cases hj : j = k
   ·rw [if_pos hj, if_pos hj]
   ·rw [if_neg hj, if_neg hj, if_neg hj]
  ·rw [if_neg h, mget_cons, ih, mget_cons]
   by_cases hj : j = k
   ·rw [if_pos hj, if_pos hj, if_neg (by rw [hj]; exact h)]
   ·rw [if_neg hj, if_neg hj]
theorem mput_keys (L : List (Int × Value)) (k : Int) (v : Value) (j : Int) : j ∈ (mput L k v).map (·.1) ↔ j = k ∨ j ∈ L.map (·.1) := by
 induction L with
 | nil => simp [mput]
 | cons x r ih =>
  unfold mput
  by_cases h : k = x.1
  ·rw [if_pos h]; simp [h]
  ·rw [if_neg h, List.map_cons, List.mem_cons, ih, List.map_cons, List.mem_cons]
   constructor
   ·rintro (h | h | h)
    ·exact .inr (.inl h)
    ·exact .inl h
    ·exact .inr (.inr h)
   ·rintro (h | h | h)
    ·exact .inr (.inl h)
    ·exact .inl h
    ·exact .inr (.inr h)
theorem mput_nodup (L : List (Int × Value)) (k : Int) (v : Value) (h : (L.map (·.1)).Nodup) : ((mput L k v).map (·.1)).Nodup := by
 induction L with
 | nil => simp [mput]
 | cons x r ih =>
  unfold mput
  rw [List.map_cons, List.nodup_cons] at h
  by_cases hk : k = x.1
  ·rw [if_pos hk, List.map_cons, List.nodup_cons]; rw [hk]; exact h
  ·rw [if_neg hk, List.map_cons, List.nodup_cons, mput_keys]
   refine ⟨?_, ih h.2⟩
   rintro (e | e)
   ·exact hk e.symm
   ·exact h.1 e
/-! ### the runs -/
def mfind (k : Int) : List (Int × Value × Nat) → Nat → Option (Nat × Value)
 | [], _ => none
 | x :: r, i => if k = x.1 then some (i, x.2.1) else mfind k r (i + 1)
theorem mfind_get (k : Int) (t : List (Int × Value × Nat)) : ∀ i, (mfind k t i).map (·.2) = mget (t.map pr) k := by
 induction t with
 | nil => intro i; rfl
 | cons x r ih =>
  intro i
  rw [List.map_cons, mget_cons]
  unfold mfind
  by_cases h : k = x.1
  ·rw [if_pos h, if_pos (by exact h)]; rfl
  ·rw [if_neg h, if_neg (by exact h)]; exact ih _
variable {P : Program}
theorem run_getMap {w : World} {m : Nat} {es : Array MapEntry} {clk : Nat} (h : w.heap[m]? = some (.map es clk)) : (getObj m).run P w = .ok (.map es clk) w := by
 simp [getObj, Sem.run, h]
theorem mfind_put (k : Int) (v : Value) (t : List (Int × Value × Nat)) (i0 : Nat) : ∀ j, match mfind k t j with
  | some (i, _) => j ≤ i ∧ i < j + t.length ∧ (t[i - j]?).map (·.1) = some k ∧ ((t.modify (i - j) fun x => (k, v, x.2.2)).map pr = mput (t.map pr) k v)
  | none => k ∉ t.map (·.1) ∧ (t ++ [(k, v, i0)]).map pr = mput (t.map pr) k v := by
 induction t with
 | nil => intro j; simp [mfind, mput, pr]
 | cons x r ih =>
  intro j
  unfold mfind
  by_cases h : k = x.1
  ·rw [if_pos h]
   simp only
   refine ⟨Nat.le_refl _, by simp, by simp [h], ?_⟩
   rw [Nat.sub_self]
   simp only [List.modify_cons, if_true, List.map_cons, mput]
   rw [if_pos (by rw [h]; rfl)]
   rfl
  ·rw [if_neg h]
   have ih' := ih (j + 1)
   cases hf : mfind k r (j + 1) with
   | none =>
    rw [hf] at ih'
    simp only at ih' ⊢
    refine ⟨by simp only [List.map_cons, List.mem_cons, not_or]; exact ⟨h, ih'.1⟩, ?_⟩
    simp only [List.cons_append, List.map_cons, mput]
    rw [if_neg (by exact h), ← ih'.2]
   | some y =>
    rw [hf] at ih'
    simp only at ih' ⊢
    obtain ⟨h1, h2, h3, h4⟩ := ih'
    have e1 : y.1 - j = (y.1 - (j + 1)) + 1 := by omega
    refine ⟨by omega, by simp; omega, by rw [e1]; simpa using h3, ?_⟩
    rw [e1]
    simp only [List.modify_succ_cons, List.map_cons, mput]
    rw [if_neg (by exact h), h4]
end Go.Proofs.YtkcechpaeilaeaaGreatDoor
namespace Go.Proofs.YtkcechpaeilaeaaGreatDoor
open Go.RowKit
open Go.ChangeMaps (setBlock)
variable {P : Program}
def IRange (w : World) (m it : Nat) (L todo : List (Int × Value)) (lst : Option (Int × Value)) : Prop :=
 ∃ (t : List (Int × Value × Nat)) (clk : Nat) (seen : Array Nat), w.heap[m]? = some (.map (t.map ent).toArray clk) ∧ t.map pr = L ∧ (L.map (·.1)).Nodup ∧ (t.map (·.2.2)).Nodup ∧ (∀ x ∈ t, x.2.2 < clk) ∧
  w.heap[it]? = some (.mapIter (some m) clk seen clk) ∧ todo = (t.filter (fun x => !seen.contains x.2.2)).map pr ∧
  (∀ kv, lst = some kv → ∃ (seen0 : Array Nat) (b : Nat), seen = seen0.push b ∧ (kv.1, kv.2, b) ∈ t)
end Go.Proofs.YtkcechpaeilaeaaGreatDoor
namespace Go.Proofs.YtkcechpaeilaeaaGreatDoor
open Go
variable {P : Program} {ops : Array Oper} {Q : Exit → Act → World → Prop} {md : Region.Mode} {S : World → Prop} {nd : List Nat}
def wpAnyN (P : Program) (md : Region.Mode) (ops : Array Oper) (Q : Exit → Act → World → Prop) (S : World → Prop) (nd : List Nat) : Nat → Array Bool → Act → World → Prop
 | 0, listed, a, w => Region.ready md ops listed = [] ∧ Q .normal a w
 | fuel + 1, listed, a, w =>
  (Region.ready md ops listed = [] → Q .normal a w) ∧
  ∀ i ∈ Region.ready md ops listed, wpOp P ops Q i (fun a' w' => (nd.contains i = true → S w') ∧ wpAnyN P md ops Q S nd fuel (listed.setIfInBounds i true) a' w') a w
theorem wpAny_of_N : ∀ (fuel : Nat) (listed : Array Bool) (a : Act) (w : World), wpAnyN P md ops Q S nd fuel listed a w → wpAny P md ops Q fuel listed a w
 | 0, _, _, _, h => h
 | fuel + 1, _, _, _, h => ⟨h.1, fun i hi => wpOp_mono (fun a' w' h' => wpAny_of_N fuel _ a' w' h'.2) (h.2 i hi)⟩
theorem wpAnyN_first {i : Nat} {oi : Oper} {v : Value} (hi : ops[i]? = some oi) (hsel : ∀ (j : Nat) (o : Oper) cs b, ops[j]? = some o → o.op ≠ .select cs b)
  (hQ : ∀ c a w, Q (.panic c) (a.put oi.dst v) w → Q (.panic c) a w) :
  ∀ (fuel : Nat) (listed : Array Bool) (a : Act) (w : World),
   (∀ j oj, ops[j]? = some oj → j ≠ i → listed.getD j true = false → (∀ e ∈ oj.after, Region.binds md e = true → e.on ≠ i) → oi.apart ops oj = true ∧ nd.contains j = true) →
   i ∈ Region.ready md ops listed → YieldsIf P ops S oi v a → S w →
   wpAnyN P md ops Q S nd fuel (listed.setIfInBounds i true) (a.put oi.dst v) w → wpAnyN P md ops Q S nd (fuel + 1) listed a w := by
 intro fuel
 induction fuel with
 | zero =>
  intro listed a w _ hr hy hS H
  refine ⟨fun h => (by rw [h] at hr; cases hr), fun j hj => ?_⟩
  by_cases hji : j = i
  ·subst hji; exact hy.wpOp hi hS ⟨fun _ => hS, H⟩
  ·have := ready_mono hj hji
   rw [H.1] at this
   cases this
 | succ fuel ih =>
  intro listed a w hfree hr hy hS H
  refine ⟨fun h => (by rw [h] at hr; cases hr), fun j hj => ?_⟩
  by_cases hji : j = i
  ·subst hji; exact hy.wpOp hi hS ⟨fun _ => hS, H⟩
  ·have h1 := H.2 j (ready_mono hj hji)
   obtain ⟨hjun, oj, hoj, hall⟩ := mem_ready.1 hj
   have hnot : ∀ e ∈ oj.after, Region.binds md e = true → e.on ≠ i := fun e he hb heq => by
    have h1 := hall e he hb
    have h0 := (mem_ready.1 hr).1
    rw [heq] at h1
    rcases Nat.lt_or_ge i listed.size with h' | h'
    ·simp [h'] at h0 h1; rw [h0] at h1; cases h1
    ·simp [Array.getElem?_eq_none h'] at h1
   have hf := hfree j oj hoj hji hjun hnot
   have h2 := wpOp_putIf hoj hf.1 (fun cs b => hsel i oi cs b hi) (fun cs b => hsel j oj cs b hoj) hQ hy h1
   have hfree' : ∀ k ok, ops[k]? = some ok → k ≠ i → (listed.setIfInBounds j true).getD k true = false →
     (∀ e ∈ ok.after, Region.binds md e = true → e.on ≠ i) → oi.apart ops ok = true ∧ nd.contains k = true := fun k ok hk hki hun hno => by
    refine hfree k ok hk hki ?_ hno
    by_cases hjk : j = k
    ·subst hjk; exact hjun
    ·rw [getD_set_ne true hjk] at hun; exact hun
   refine wpOp_mono (fun a' w' h3 => ⟨h3.2.1, ?_⟩) h2
   refine ih (listed.setIfInBounds j true) a' w' hfree' (ready_mono hr (Ne.symm hji)) h3.1 (h3.2.1 hf.2) ?_
   rw [Array.setIfInBounds_comm _ _ hji]
   exact h3.2.2
def needB (md : Region.Mode) (ops : Array Oper) (listed : Array Bool) (nd : List Nat) (i : Nat) : Bool :=
 (List.range ops.size).all fun j => j == i || listed.getD j true || nd.contains j || match ops[j]? with
  | some oj => oj.after.any (fun e => Region.binds md e && e.on == i)
  | none => true
theorem needB_spec {listed : Array Bool} {i : Nat} (h : needB md ops listed nd i = true) (j : Nat) (oj : Oper) (hj : ops[j]? = some oj) (hji : j ≠ i) (hun : listed.getD j true = false)
  (hno : ∀ e ∈ oj.after, Region.binds md e = true → e.on ≠ i) : nd.contains j = true := by
 have hlt := (Array.getElem?_eq_some_iff.1 hj).1
 have h1 := List.all_eq_true.1 h j (List.mem_range.2 hlt)
 rw [hun, hj] at h1
 have h2 : (j == i) = false := by simpa using hji
 rw [h2] at h1
 simp only [Bool.false_or, Bool.or_eq_true] at h1
 rcases h1 with h1 | h1
 ·exact h1
 ·obtain ⟨e, he, hb⟩ := Array.any_eq_true'.1 h1
  simp only [Bool.and_eq_true, beq_iff_eq] at hb
  exact absurd hb.2 (hno e he hb.1)
theorem rn_take {i : Nat} {oi : Oper} {dst : Option Tmp} {v : Value} {fuel : Nat} {listed : Array Bool} {a : Act} {w : World} (hi : ops[i]? = some oi)
  (hb : (Region.noSelect ops && Region.free md ops listed i && (Region.ready md ops listed).contains i && needB md ops listed nd i) = true)
  (hQ : ∀ c a w, Q (.panic c) (a.put dst v) w → Q (.panic c) a w) (hd : oi.dst = dst) (hw : Region.wanted oi (yielded ops a.tmps) = true) (hy : ∀ w, S w → (execOp a.eval oi).run P w = .ok (.value v) w) (hS : S w)
  (h : wpAnyN P md ops Q S nd fuel (listed.setIfInBounds i true) (a.put dst v) w) : wpAnyN P md ops Q S nd (fuel + 1) listed a w := by
 subst hd
 simp only [Bool.and_eq_true] at hb
 obtain ⟨⟨⟨hs, hf⟩, hr⟩, hn⟩ := hb
 exact wpAnyN_first hi (Region.noSelect_spec hs) hQ fuel listed a w (fun j oj hj hji hun hno => ⟨Region.free_spec hi hf j oj hj hji hun hno, needB_spec hn j oj hj hji hun hno⟩) (by simpa using hr) (.inl ⟨hw, hy⟩) hS h
theorem rn_pass {i : Nat} {oi : Oper} {dst : Option Tmp} {fuel : Nat} {listed : Array Bool} {a : Act} {w : World} (hi : ops[i]? = some oi)
  (hb : (Region.noSelect ops && Region.free md ops listed i && (Region.ready md ops listed).contains i && needB md ops listed nd i) = true)
  (hQ : ∀ c a w, Q (.panic c) (a.put dst undef) w → Q (.panic c) a w) (hd : oi.dst = dst) (hw : Region.wanted oi (yielded ops a.tmps) = false) (hS : S w)
  (h : wpAnyN P md ops Q S nd fuel (listed.setIfInBounds i true) (a.put dst undef) w) : wpAnyN P md ops Q S nd (fuel + 1) listed a w := by
 subst hd
 simp only [Bool.and_eq_true] at hb
 obtain ⟨⟨⟨hs, hf⟩, hr⟩, hn⟩ := hb
 exact wpAnyN_first hi (Region.noSelect_spec hs) hQ fuel listed a w (fun j oj hj hji hun hno => ⟨Region.free_spec hi hf j oj hj hji hun hno, needB_spec hn j oj hj hji hun hno⟩) (by simpa using hr) (.inr ⟨hw, rfl⟩) hS h
theorem rn_one {i : Nat} {oi : Oper} {dst : Option Tmp} {fuel : Nat} {listed : Array Bool} {a : Act} {w : World} (hi : ops[i]? = some oi) (hr : Region.ready md ops listed = [i]) (hd : oi.dst = dst) (hw : Region.wanted oi (yielded ops a.tmps) = true)
  (h : ∀ K : Act → World → Prop, (∀ v w', (nd.contains i = true → S w') → wpAnyN P md ops Q S nd fuel (listed.setIfInBounds i true) (a.put dst v) w' → K (a.put oi.dst v) w') → oi.wp P a w K Q) : wpAnyN P md ops Q S nd (fuel + 1) listed a w := by
 subst hd
 refine ⟨fun h0 => (by rw [hr] at h0; cases h0), fun j hj => ?_⟩
 rw [hr] at hj
 simp only [List.mem_singleton] at hj
 subst hj
 unfold wpOp
 simp only [hi]
 rw [if_pos hw]
 exact .inl (h _ (fun v w' h1 h2 => ⟨h1, h2⟩))
theorem rn_done {listed : Array Bool} {a : Act} {w : World} (hr : Region.ready md ops listed = []) (h : Q .normal a w) : ∀ fuel, wpAnyN P md ops Q S nd fuel listed a w
 | 0 => ⟨hr, h⟩
 | _ + 1 => ⟨fun _ => h, by rw [hr]; simp⟩
theorem rn_begin (S : World → Prop) (nd : List Nat) {id : Nat} {a : Act} {w : World} (hm : P.follows .mixedOrders = true)
  (h : wpAnyN P .any ops Q S nd ops.size (Array.replicate ops.size false) a w.drew) : (Code.region id ops true).wp P Q a w :=
 wp_region_any hm (wpAny_of_N _ _ _ _ h)
end Go.Proofs.YtkcechpaeilaeaaGreatDoor
namespace Go.Proofs.YtkcechpaeilaeaaGreatDoor
open Go.RowKit
variable {P : Program} {ops : Array Oper} {rest : List Oper} {o : Oper} {a : Act} {Q : Exit → Act → World → Prop} {K : Act → World → Prop}
theorem ow_run {w w' : World} {v : Value} (hr : (execOp a.eval o).run P w = .ok (.value v) w') (h : K (a.put o.dst v) w') : o.wp P a w K Q := by
 unfold Oper.wp; rw [hr]; exact h
theorem ow_skip {w w' : World} (hr : (execOp a.eval o).run P w = .ok .skip w') (h : K (a.put o.dst undef) w') : o.wp P a w K Q := by
 unfold Oper.wp; rw [hr]; exact h
theorem wl_run {w w' : World} {v : Value} (hg : o.guard = none) (hr : (execOp a.eval o).run P w = .ok (.value v) w') (h : wpList P ops Q rest (a.put o.dst v) w') : wpList P ops Q (o :: rest) a w :=
 wpList_plain hg fun _ hK => ow_run hr (hK _ _ h)
theorem wl_skip {w w' : World} (hg : o.guard = none) (hr : (execOp a.eval o).run P w = .ok .skip w') (h : wpList P ops Q rest (a.put o.dst undef) w') : wpList P ops Q (o :: rest) a w :=
 wpList_plain hg fun _ hK => ow_skip hr (hK _ _ h)
/-! ### a new variable -/
theorem ex_alloc (w : World) (t : TypeId) (ho : o.op = .alloc t) (zs : List Value) (hz : (zeroValue t).run P w = .ok (.agg zs.toArray) w) :
  (execOp a.eval o).run P w = .ok (.value (.pointer (some ⟨w.heap.size, 0, none⟩))) (w.alloc (.cells zs.toArray t)) := by
 unfold execOp
 rw [ho]
 simp only [Instr.alloc, Sem.run_bind, hz, Result.andThen_ok, newVar, newRow, newObj, Sem.run, Sem.run_pure, Value.cells]
 rfl
theorem wl_alloc {w : World} (hg : o.guard = none) (t : TypeId) (ho : o.op = .alloc t) (zs : List Value) (hz : (zeroValue t).run P w = .ok (.agg zs.toArray) w)
  (h : wpList P ops Q rest (a.put o.dst (.pointer (some ⟨w.heap.size, 0, none⟩))) (w.alloc (.cells zs.toArray t))) : wpList P ops Q (o :: rest) a w :=
 wl_run hg (ex_alloc w t ho zs hz) h
/-! ### a whole array, or struct, stored and loaded -/
theorem ex_store_new (w : World) (t : TypeId) (x y : Operand) (ho : o.op = .store t x y) (zs cs : List Value) (hx : a.eval x = .pointer (some ⟨w.heap.size, 0, none⟩)) (hy : a.eval y = .agg cs.toArray)
  (hi : (P.info? t).map (·.size) = some cs.length) (hl : zs.length = cs.length) (h1 : ∀ v ∈ cs, v.oneCell' = true) : (execOp a.eval o).run P (w.alloc (.cells zs.toArray t)) = .ok .skip (w.alloc (.cells cs.toArray t)) := by
 unfold execOp
 simp only [ho, hx, hy, Sem.run_bind]
 rw [run_storeAt_new w t zs.toArray cs.toArray (by simpa using hi) (by simpa using hl) (all_oneCell_toArray h1)]
 rfl
theorem wl_store_new {w : World} (hg : o.guard = none) (t : TypeId) (x y : Operand) (ho : o.op = .store t x y) (zs cs : List Value) (hx : a.eval x = .pointer (some ⟨w.heap.size, 0, none⟩)) (hy : a.eval y = .agg cs.toArray)
  (hi : (P.info? t).map (·.size) = some cs.length) (hl : zs.length = cs.length) (h1 : ∀ v ∈ cs, v.oneCell' = true)
  (h : wpList P ops Q rest (a.put o.dst undef) (w.alloc (.cells cs.toArray t))) : wpList P ops Q (o :: rest) a (w.alloc (.cells zs.toArray t)) :=
 wl_skip hg (ex_store_new w t x y ho zs cs hx hy hi hl h1) h
theorem ex_store_mid (w : World) (t : TypeId) (x y : Operand) (ho : o.op = .store t x y) (b off : Nat) (bt : TypeId) (old cs : List Value) (hx : a.eval x = .pointer (some ⟨b, off, none⟩)) (hy : a.eval y = .agg cs.toArray)
  (hb : Blk w b old bt) (hn : off + cs.length ≤ old.length) (hi : (P.info? t).map (·.size) = some cs.length) (h1 : ∀ v ∈ cs, v.oneCell' = true) :
  ∃ w', (execOp a.eval o).run P w = .ok .skip w' ∧ Blk w' b (splice old off cs) bt ∧ Kp (· = b) w w' ∧ w'.heap.size = w.heap.size := by
 refine ⟨w.setCells b off cs, ?_, hb.setCells cs off hn, Kp.setCells (S := (· = b)) b (.inr rfl) cs off (Kp.refl _ _), setCells_size b cs off w⟩
 unfold execOp
 simp only [ho, hx, hy, Sem.run_bind]
 rw [run_storeAt_mid w b off t cs.toArray (by simpa using hb.there off cs.length hn) (by simpa using hi) (all_oneCell_toArray h1)]
 rfl
theorem ow_store_mid {w : World} (t : TypeId) (x y : Operand) (ho : o.op = .store t x y) (b off : Nat) (bt : TypeId) (old cs : List Value) (hx : a.eval x = .pointer (some ⟨b, off, none⟩)) (hy : a.eval y = .agg cs.toArray)
  (hb : Blk w b old bt) (hn : off + cs.length ≤ old.length) (hi : (P.info? t).map (·.size) = some cs.length) (h1 : ∀ v ∈ cs, v.oneCell' = true)
  (h : ∀ w', Blk w' b (splice old off cs) bt → Kp (· = b) w w' → w'.heap.size = w.heap.size → K (a.put o.dst undef) w') : o.wp P a w K Q := by
 obtain ⟨w', h1, h2, h3, h4⟩ := ex_store_mid w t x y ho b off bt old cs hx hy hb hn hi h1
 exact ow_skip h1 (h w' h2 h3 h4)
theorem wl_store_mid {w : World} (hg : o.guard = none) (t : TypeId) (x y : Operand) (ho : o.op = .store t x y) (b off : Nat) (bt : TypeId) (old cs : List Value) (hx : a.eval x = .pointer (some ⟨b, off, none⟩)) (hy : a.eval y = .agg cs.toArray)
  (hb : Blk w b old bt) (hn : off + cs.length ≤ old.length) (hi : (P.info? t).map (·.size) = some cs.length) (h1 : ∀ v ∈ cs, v.oneCell' = true)
  (h : ∀ w', Blk w' b (splice old off cs) bt → Kp (· = b) w w' → w'.heap.size = w.heap.size → wpList P ops Q rest (a.put o.dst undef) w') : wpList P ops Q (o :: rest) a w :=
 wpList_plain hg fun _ hK => ow_store_mid t x y ho b off bt old cs hx hy hb hn hi h1 (fun w' a b c => hK _ _ (h w' a b c))
theorem ex_load_mid (w : World) (t : TypeId) (x : Operand) (ho : o.op = .load t x) (b off : Nat) (hx : a.eval x = .pointer (some ⟨b, off, none⟩)) (cs : List Value) (hc : w.rangeAt b off cs)
  {d : TypeDesc} (hu : P.underlying t = some d) (hd : d.isRow = true) (hi : (P.info? t).map (·.size) = some cs.length) : (execOp a.eval o).run P w = .ok (.value (.agg cs.toArray)) w := by
 unfold execOp
 simp only [ho, hx, Sem.run_bind, run_loadAt_mid w b off t cs d hc hu hd hi]
 rfl
theorem wl_load_mid {w : World} (hg : o.guard = none) (t : TypeId) (x : Operand) (ho : o.op = .load t x) (b off : Nat) (hx : a.eval x = .pointer (some ⟨b, off, none⟩)) (cs : List Value) (hc : w.rangeAt b off cs)
  {d : TypeDesc} (hu : P.underlying t = some d) (hd : d.isRow = true) (hi : (P.info? t).map (·.size) = some cs.length)
  (h : wpList P ops Q rest (a.put o.dst (.agg cs.toArray)) w) : wpList P ops Q (o :: rest) a w :=
 wl_run hg (ex_load_mid w t x ho b off hx cs hc hu hd hi) h
/-! ### maps with int keys -/
/-! ### a struct built, a slice built -/
theorem foldl_splice : ∀ (vs cs : List Value) (off k : Nat), off + k + vs.length ≤ cs.length →
  (vs.zipIdx k).foldl (fun (c : Array Value) (x : Value × Nat) => c.setIfInBounds (off + x.2) x.1) cs.toArray = (splice cs (off + k) vs).toArray
 | [], cs, off, k, _ => by simp [splice_nil]
 | v :: r, cs, off, k, h => by
  simp only [List.zipIdx_cons, List.foldl_cons, List.setIfInBounds_toArray]
  rw [foldl_splice r (cs.set (off + k) v) off (k + 1) (by simp at h ⊢; omega), ← Nat.add_assoc, splice_cons (by simpa [Nat.add_assoc, Nat.add_comm 1] using h)]
theorem fill_step (place : Nat → Option (Nat × Nat)) (cs vs : List Value) (i off : Nat) (v : Value) (hv : v.cells = vs.toArray) (rest : List (Nat × Value)) (hp : place i = some (off, vs.length)) (hl : off + vs.length ≤ cs.length) :
  Instr.fill place cs.toArray ((i, v) :: rest) = Instr.fill place (splice cs off vs).toArray rest := by
 have := foldl_splice vs cs off 0 (by simpa using hl)
 simp only [Nat.add_zero] at this
 rw [Instr.fill.eq_def]
 simp only [hp, hv, List.size_toArray]
 rw [if_neg (by simp; omega), ← this]
 congr 1
 rw [← Array.foldl_toList]
 simp
theorem splice_all (cs vs : List Value) (h : vs.length = cs.length) : splice cs 0 vs = vs := by
 unfold splice
 simp [h]
theorem ex_build (w : World) (t : TypeId) (pl : List (Nat × Operand)) (ho : o.op = .build t pl.toArray) {fs : Array Field} (ht : P.underlying t = some (.struct fs)) (zs : List Value) (hz : (zeroValue t).run P w = .ok (.agg zs.toArray) w)
  (places : Array (Nat × Nat)) (hpl : (fs.mapM (m := Sem) fun (f : Field) => do pure (f.offset, ← sizeOf f.type)).run P w = .ok places w) (parts : List (Nat × Value)) (hps : (pl.map fun x => (x.1, a.eval x.2)) = parts) (cs : List Value) (hf : Instr.fill (places[·]?) zs.toArray parts = some cs.toArray) :
  (execOp a.eval o).run P w = .ok (.value (.agg cs.toArray)) w := by
 unfold execOp
 have he : (pl.toArray.map fun (i, x) => (i, a.eval x)) = parts.toArray := by rw [← hps]; simp
 simp only [ho, he, Sem.run_bind]
 have : (Instr.build t parts.toArray).run P w = .ok (.agg cs.toArray) w := by
  unfold Instr.build
  simp only [Sem.run_bind, hz, Result.andThen_ok, run_underlying ht, Value.cells]
  rw [hpl]
  simp only [Result.andThen_ok, List.toList_toArray, hf]
  rfl
 rw [this]
 rfl
theorem ex_buildSlice1 (w : World) (t e : TypeId) (x : Operand) (ho : o.op = .buildSlice t 1 #[(0, x)]) (ht : P.underlying t = some (.slice e)) (vs : List Value) (hx : (a.eval x).cells = vs.toArray) (zs : List Value) (hz : (zeroValue e).run P w = .ok (.agg zs.toArray) w)
  (hi : (P.info? e).map (·.size) = some vs.length) (hl : zs.length = vs.length) (h0 : 0 < vs.length) (hm : vs.length ≤ 16777216) :
  (execOp a.eval o).run P w = .ok (.value (.slice (some ⟨w.heap.size, 0, none⟩) 1 1)) (w.alloc (.cells vs.toArray e)) := by
 unfold execOp
 simp only [ho, Sem.run_bind]
 have hsz : (sizeOf e).run P w = .ok vs.length w := by
  cases hq : P.info? e with
  | none => rw [hq] at hi; simp at hi
  | some i => rw [hq] at hi; simp at hi; simp [sizeOf, typeInfo, hq, hi]
 have hfill := fill_step (fun i => some (i * vs.length, vs.length)) zs vs 0 0 (a.eval x) hx [] (by simp) (by omega)
 have hrange : ((Array.range (1 * vs.length)).map (zs.toArray[· % zs.toArray.size]!)) = zs.toArray := by
  apply Array.ext'
  apply List.ext_getElem?
  intro i
  simp only [Array.toList_map, Array.toList_range, List.getElem?_map, Nat.one_mul, List.size_toArray]
  rcases Nat.lt_or_ge i vs.length with h | h
  ·rw [List.getElem?_range h]
   simp only [Option.map_some]
   rw [hl, Nat.mod_eq_of_lt h, List.getElem?_eq_getElem (by omega)]
   simp [hl, h]
  ·rw [List.getElem?_eq_none (by simpa using h), List.getElem?_eq_none (by omega)]; rfl
 have : (Instr.buildSlice t 1 #[(0, a.eval x)]).run P w = .ok (.slice (some ⟨w.heap.size, 0, none⟩) 1 1) (w.alloc (.cells vs.toArray e)) := by
  unfold Instr.buildSlice
  simp only [Sem.run_bind, run_underlying ht, Result.andThen_ok, hsz]
  have n1 : ¬ (1 * vs.length > 2 ^ 24) := by omega
  have n2 : ¬ (1 * vs.length = 0) := by omega
  simp only [n1, n2, if_false, Sem.run_bind, hz, Sem.run_pure, Result.andThen_ok, Value.cells, hrange, hfill, splice_all zs vs hl.symm]
  simp [Instr.fill, newRow, newObj, Sem.run]
 have he : (#[(0, x)] : Array (Nat × Operand)).map (fun (i, x) => (i, a.eval x)) = #[(0, a.eval x)] := by simp
 rw [he, this]
 rfl
end Go.Proofs.YtkcechpaeilaeaaGreatDoor
namespace Go.Proofs.YtkcechpaeilaeaaGreatDoor
open Go.RowKit
variable {P : Program} {ops : Array Oper} {rest : List Oper} {o : Oper} {a : Act} {Q : Exit → Act → World → Prop} {K : Act → World → Prop}
theorem setRow_Kp (w : World) (g : Nat) (cs : Array Value) : Kp (· = g) w (w.setRow g cs) :=
 ⟨rfl, rfl, rfl, by simp, fun k _ hk => setRow_other w g k _ hk⟩
theorem run_append_mine (w : World) (t ty e : TypeId) (i : TypeInfo) (z : Value) (size bytes : Nat) (ht : P.underlying t = some (.slice e)) (hi : P.info? e = some i) (hz : i.zero = some z)
  (hsize : i.size = size) (hby : i.bytes = bytes) (hzs : z.cells.size = size) (hsz : 0 < size)
  (v : Value) (n : Nat) (xs : List Value) (hown : w.ownsRow 0 e size v n xs)
  (ad : Addr) (m c : Nat) (news : List Value) (hl : news.length = m * size) (hnews : ∀ j u, news[j]? = some u → w.cell? (ad.add j) = some u) (h1 : ∀ u ∈ news, u.oneCell' = true)
  (h63 : n + m ≤ maxLen) (hbytes : (n + m) * bytes ≤ 140737488355328) (hm0 : 0 < m) :
  ∃ v' w', (Builtin.append_ #[t, t] ty #[v, .slice (some ad) m c]).run P w = .ok v' w' ∧ w'.ownsRow 0 e size v' (n + m) (xs ++ news) ∧ Kp (fun k => v.ownBlock = some k) w w' ∧
   (∀ k, v'.ownBlock = some k → v.ownBlock = some k ∨ w.heap.size ≤ k) := by
 subst hsize
 subst hby
 have hsmall : n + m ≤ 9223372036854775807 := by simp only [maxLen] at h63; omega
 have hlen : (xs ++ news).length = (n + m) * i.size := by rw [List.length_append, hown.1, hl, Nat.add_mul]
 have grown : ∀ (old : Nat), old < n + m →
   (w.drew.alloc (.cells (xs.toArray ++ news.toArray ++ Builtin.zeroCells z.cells (grownCap w (n + m) old e - (n + m))) e)).ownsRow 0 e i.size
    (.slice (some ⟨w.heap.size, 0, none⟩) (n + m) (grownCap w (n + m) old e)) (n + m) (xs ++ news) := by
  intro old ho
  have hge := grownCap_ge w (n + m) old e
  have hcm : grownCap w (n + m) old e ≤ maxLen := grownCap_le_maxLen w (n + m) old e h63
  refine ⟨hlen, .inr ⟨w.heap.size, _, _, rfl, Nat.zero_le _, heap_alloc_new w.drew _, hge, hcm, ?_, ?_⟩⟩
  ·simp only [Array.size_append, List.size_toArray, size_zeroCells, hzs, hown.1, hl, ← Nat.add_mul]
   congr 1
   omega
  ·simp only [Array.toList_append, List.append_assoc]
   rw [← List.append_assoc, ← hlen]
   exact List.take_left
 have fresh : ∀ (X : Nat → Prop) (o : Obj), Kp X w (w.drew.alloc o) := fun X o => ((Kp.refl X w).drew).alloc o
 rcases hown.2 with ⟨rfl, rfl⟩ | ⟨g, cap, cur, rfl, hbg, hg, hnc, hcm, hcs, htake⟩
 ·have hx : xs = [] := List.eq_nil_of_length_eq_zero (by simpa using hown.1)
  subst hx
  have hr := run_append_nil (P := P) w t ty e i z ht hi hz ad m c news hl hnews (by omega) (by omega) (by have hb := hbytes; simp only [Nat.zero_add] at hb; omega)
  have hgr := grown 0 (by omega)
  simp only [Nat.zero_add, List.nil_append, Array.empty_append] at hgr ⊢
  exact ⟨_, _, hr, hgr, fresh _ _, fun k hk => .inr (by simp [Value.ownBlock] at hk; omega)⟩
 ·by_cases hroom : n + m ≤ cap
  ·have hfit : n * i.size + news.length ≤ cur.size := by rw [hl, hcs, ← Nat.add_mul]; exact Nat.mul_le_mul_right _ hroom
   have hr := run_append_room (P := P) w t ty e i ht hi g n cap cur hg ad m c news hl hnews h1 hroom hfit
   refine ⟨_, _, hr, ⟨hlen, .inr ⟨g, cap, _, rfl, hbg, setRow_heap w g cur _ e _ hg, hroom, hcm, ?_, ?_⟩⟩, (setRow_Kp w g _).mono (fun k _ hk => by simp [Value.ownBlock, hk]), fun k hk => .inl hk⟩
   ·simp only [List.size_toArray, List.length_append, List.length_take, List.length_drop, Array.length_toList]
    omega
   ·rw [htake, ← hlen]
    exact List.take_left
  ·have holds : ∀ j u, xs[j]? = some u → w.cell? ((⟨g, 0, none⟩ : Addr).add j) = some u := hown.cells (g := g) rfl
   have hr := run_append_grow (P := P) w t ty e i z ht hi hz ⟨g, 0, none⟩ n cap xs hown.1 holds ad m c news hl hnews (by omega) (by omega) (growslice_fits (by omega) hbytes)
   exact ⟨_, _, hr, grown cap (by omega), fresh _ _, fun k hk => .inr (by simp [Value.ownBlock] at hk; omega)⟩
theorem rangeAt_add {w : World} {b o : Nat} {cs : List Value} (h : w.rangeAt b o cs) : ∀ j u, cs[j]? = some u → w.cell? ((⟨b, o, none⟩ : Addr).add j) = some u := fun j u hu => by
 rw [Addr.add_mid]; exact h j u hu
theorem ow_append {w : World} (s x : Operand) (t : TypeId) (ho : o.op = .call { callee := .builtin .append, args := #[s, x], argTypes := #[t, t] })
  (e : TypeId) (size bytes : Nat) {z : Value} (ht : P.underlying t = some (.slice e)) (hinf : (P.info? e).map (fun i => (i.zero, i.size, i.bytes)) = some (some z, size, bytes)) (hzs : z.cells.size = size) (hsz : 0 < size)
  (v : Value) (n : Nat) (xs : List Value) (hs : a.eval s = v) (hown : w.ownsRow 0 e size v n xs)
  (b off m c : Nat) (news : List Value) (hx : a.eval x = .slice (some ⟨b, off, none⟩) m c) (hl : news.length = m * size) (hnews : w.rangeAt b off news) (h1 : ∀ u ∈ news, u.oneCell' = true)
  (h63 : n + m ≤ maxLen) (hbytes : (n + m) * bytes ≤ 140737488355328) (hm0 : 0 < m)
  (h : ∀ v' w', w'.ownsRow 0 e size v' (n + m) (xs ++ news) → Kp (fun k => v.ownBlock = some k) w w' → (∀ k, v'.ownBlock = some k → v.ownBlock = some k ∨ w.heap.size ≤ k) → K (a.put o.dst v') w') : o.wp P a w K Q := by
 obtain ⟨i0, hi, hz0, hz1, hz2⟩ := info_parts hinf
 obtain ⟨v', w', hr, h2, h3, h4⟩ := run_append_mine (P := P) w t o.type e i0 z size bytes ht hi hz0 hz1 hz2 hzs hsz v n xs hown ⟨b, off, none⟩ m c news hl (rangeAt_add hnews) h1 h63 hbytes hm0
 refine ow_run (w' := w') (by
  unfold execOp
  simp only [ho, resolve, invoke, builtin, Sem.run_bind, Sem.run_pure, Result.andThen_ok, List.map_toArray, List.map_cons, List.map_nil, hs, hx, hr]) (h v' w' h2 h3 h4)
theorem wl_append {w : World} (hg : o.guard = none) (s x : Operand) (t : TypeId) (ho : o.op = .call { callee := .builtin .append, args := #[s, x], argTypes := #[t, t] })
  (e : TypeId) (size bytes : Nat) {z : Value} (ht : P.underlying t = some (.slice e)) (hinf : (P.info? e).map (fun i => (i.zero, i.size, i.bytes)) = some (some z, size, bytes)) (hzs : z.cells.size = size) (hsz : 0 < size)
  (v : Value) (n : Nat) (xs : List Value) (hs : a.eval s = v) (hown : w.ownsRow 0 e size v n xs)
  (b off m c : Nat) (news : List Value) (hx : a.eval x = .slice (some ⟨b, off, none⟩) m c) (hl : news.length = m * size) (hnews : w.rangeAt b off news) (h1 : ∀ u ∈ news, u.oneCell' = true)
  (h63 : n + m ≤ maxLen) (hbytes : (n + m) * bytes ≤ 140737488355328) (hm0 : 0 < m)
  (h : ∀ v' w', w'.ownsRow 0 e size v' (n + m) (xs ++ news) → Kp (fun k => v.ownBlock = some k) w w' → (∀ k, v'.ownBlock = some k → v.ownBlock = some k ∨ w.heap.size ≤ k) → wpList P ops Q rest (a.put o.dst v') w') : wpList P ops Q (o :: rest) a w :=
 wpList_plain hg fun _ hK => ow_append s x t ho e size bytes ht hinf hzs hsz v n xs hs hown b off m c news hx hl hnews h1 h63 hbytes hm0 (fun v' w' a b c => hK _ _ (h v' w' a b c))
end Go.Proofs.YtkcechpaeilaeaaGreatDoor
namespace Go.Proofs.YtkcechpaeilaeaaGreatDoor
open Go.RowKit
variable {P : Program} {ops : Array Oper} {rest : List Oper} {o : Oper} {a : Act} {Q : Exit → Act → World → Prop} {K : Act → World → Prop}
theorem ex_move (w : World) (x : Operand) (v : Value) (ho : o.op = .move x) (hx : a.eval x = v) : (execOp a.eval o).run P w = .ok (.value v) w := by
 unfold execOp; rw [ho]; simp only [hx]; rfl
theorem ex_nilCheck (w : World) (x : Operand) (ad : Addr) (ho : o.op = .nilCheck x) (hx : a.eval x = .pointer (some ad)) : (execOp a.eval o).run P w = .ok (.value (.pointer (some ad))) w := by
 unfold execOp; simp only [ho, hx]; rfl
theorem ex_field (w : World) (s k : Nat) (x : Operand) (ho : o.op = .fieldAddr s x k) (b off n f_off : Nat) {fs : Array Field} {f : Field} (ht : P.underlying s = some (.struct fs)) (hf : fs[k]? = some f) (hn : (P.info? f.type).map (·.size) = some (n + 1)) (hoff : f.offset = f_off)
  (hx : a.eval x = .pointer (some ⟨b, off, none⟩)) : (execOp a.eval o).run P w = .ok (.value (.pointer (some ⟨b, off + f_off, none⟩))) w := by
 subst hoff
 unfold execOp
 simp only [ho, hx, Instr.fieldAt, Sem.run_bind, run_underlying ht, Result.andThen_ok, hf, Instr.sureAddr, Sem.run_pure, fieldPlace]
 have hs : (sizeOf f.type).run P w = .ok (n + 1) w := by
  cases hq : P.info? f.type with
  | none => rw [hq] at hn; simp at hn
  | some i => rw [hq] at hn; simp at hn; simp [sizeOf, typeInfo, hq, hn]
 simp only [hs, Result.andThen_ok, Sem.run_bind, Nat.add_one_ne_zero, if_false, Sem.run_pure, Addr.add_mid]
theorem ex_load (w : World) (t : Nat) (x : Operand) (v : Value) (ho : o.op = .load t x) (ad : Addr) {d : TypeDesc} (hu : P.underlying t = some d) (hd : d.isRow = false) (hx : a.eval x = .pointer (some ad)) (hc : w.cell? ad = some v) :
  (execOp a.eval o).run P w = .ok (.value v) w := by
 unfold execOp
 simp only [ho, hx, Instr.loadAt, Instr.sureAddr, loadVar, Sem.run_bind, Sem.run_pure, Result.andThen_ok]
 have ha : (isAgg t).run P w = .ok false w := by
  unfold isAgg
  rw [Sem.run_bind, run_underlying hu]
  cases d <;> simp_all [TypeDesc.isRow]
 simp only [ha, Result.andThen_ok, Bool.false_eq_true, if_false, load, Sem.run, hc]
theorem ex_index (w : World) (t e : Nat) (x i : Operand) (ho : o.op = .indexAddr t x i) (size n : Nat) (ht : P.underlying t = some (.slice e)) (hs : (P.info? e).map (·.size) = some size) (b off len c : Nat) (hx : a.eval x = .slice (some ⟨b, off, none⟩) len c) (k : IntKind) (hi : a.eval i = .int k (n : Int)) (hn : n < len) :
  (execOp a.eval o).run P w = .ok (.value (.pointer (some ⟨b, off + n * size, none⟩))) w := by
 unfold execOp
 have hsz : (sizeOf e).run P w = .ok size w := by
  cases hq : P.info? e with
  | none => rw [hq] at hs; simp at hs
  | some i => rw [hq] at hs; simp at hs; simp [sizeOf, typeInfo, hq, hs]
 have c1 : (0 : Int) ≤ (n : Int) ∧ (n : Int) < (len : Int) := by omega
 simp only [ho, hx, hi, Instr.indexAt, asIntOf, Sem.run_bind, run_underlying ht, Result.andThen_ok, Sem.run_pure]
 simp only [c1, and_self, if_true, Sem.run_bind, hsz, Result.andThen_ok, Sem.run_pure, Int.toNat_natCast, Addr.add_mid]
theorem ex_mul (w : World) (t t2 : Nat) (x y : Operand) (ho : o.op = .binOp .mul t x y t2) (p q : Int) (hx : a.eval x = .int .i64 p) (hy : a.eval y = .int .i64 q) (h0 : -9223372036854775808 ≤ p * q) (h1 : p * q ≤ 9223372036854775807) :
  (execOp a.eval o).run P w = .ok (.value (.int .i64 (p * q))) w := by
 unfold execOp
 have hw : IntKind.i64.wrap (p * q) = p * q := by rw [IntKind.wrap_i64]; omega
 simp only [ho, hx, hy, Sem.run_bind]
 have hg : (eqGuard .mul t x y (.int .i64 p) (.int .i64 q)).run P w = .ok () w := by rfl
 have hb : (binOp .mul t (.int .i64 p) (.int .i64 q)).run P w = .ok (.int .i64 (p * q)) w := by
  simp only [binOp, Op.intArith, hw, ne_eq, not_true_eq_false, if_false]
  rfl
 rw [hg]
 simp only [Result.andThen_ok, hb]
 rfl
theorem ow_store {w : World} (t : Nat) (x y : Operand) (v old : Value) (ho : o.op = .store t x y) (ad : Addr) (hi : (P.info? t).map (·.size) = some 1) (hx : a.eval x = .pointer (some ad)) (hy : a.eval y = v) (hv : v.cells = #[v]) (h1 : v.oneCell' = true)
  (hc : w.cell? ad = some old) (hf : w.frozen? ad = false) (h : K (a.put o.dst undef) (w.setCell ad v)) : o.wp P a w K Q := by
 refine ow_skip (w' := w.setCell ad v) ?_ h
 unfold execOp
 simp only [ho, hx, hy, Instr.storeAt, Instr.sureAddr, storeVar, Sem.run_bind, Sem.run_pure, Result.andThen_ok]
 have hs : (sizeOf t).run P w = .ok 1 w := by
  cases hq : P.info? t with
  | none => rw [hq] at hi; simp at hi
  | some i => rw [hq] at hi; simp at hi; simp [sizeOf, typeInfo, hq, hi]
 have hadd : ad.add 0 = ad := by simp [Addr.add]
 have hst : (storeCells ad [v]).run P w = .ok () (w.setCell ad v) := by
  unfold storeCells
  rw [Sem.run_bind]
  have : (store (ad.add 0) v).run P w = .ok () (w.setCell ad v) := by
   rw [hadd]
   cases v <;> first | (simp [Value.oneCell'] at h1; done) | (simp [store, Sem.run, hc, hf]; done)
  rw [this]
  rfl
 simp only [hs, Result.andThen_ok, hv, List.size_toArray, List.length_cons, List.length_nil, Nat.reduceAdd, Nat.zero_add, ne_eq, not_true_eq_false, if_false, hst]
end Go.Proofs.YtkcechpaeilaeaaGreatDoor
namespace Go.Proofs.YtkcechpaeilaeaaGreatDoor
open Go.RowKit
variable {P : Program} {ops : Array Oper} {rest : List Oper} {o : Oper} {a : Act} {Q : Exit → Act → World → Prop} {K : Act → World → Prop}
theorem ex_makeMap (w : World) (t : Nat) (ho : o.op = .makeMap t none) : (execOp a.eval o).run P w = .ok (.value (.map (some w.heap.size))) (w.alloc (.map #[] 0)) := by
 unfold execOp
 simp only [ho, Instr.makeMap, Option.map_none, Sem.run_bind, run_newObj_alloc, Sem.run_pure, Result.andThen_ok]
theorem ex_len (w : World) (t : Nat) (x : Operand) (ho : o.op = .call { callee := .builtin .len, args := #[x], argTypes := #[t] }) {e : TypeId} (ht : P.underlying t = some (.slice e)) (A : Option Addr) (n c : Nat) (hx : a.eval x = .slice A n c) : (execOp a.eval o).run P w = .ok (.value (.int .i64 n)) w := by
 unfold execOp
 simp only [ho, resolve, invoke, builtin, Sem.run_bind, Sem.run_pure, Result.andThen_ok, List.map_toArray, List.map_cons, List.map_nil, hx]
 simp [Builtin.len_, run_underlying ht, Sem.run_bind, goInt]
theorem ex_cmp (w : World) (op : BinOp) (t t2 : Nat) (x y : Operand) (ho : o.op = .binOp op t x y t2) (k : IntKind) (p q : Int) (hx : a.eval x = .int k p) (hy : a.eval y = .int k q) (b : Bool) (hb : (Op.intCmp op p q).run P w = .ok (.bool b) w)
  (hop : ∀ (p q : Int), (eqGuard op t x y (.int k p) (.int k q)).run P w = .ok () w) (hop2 : binOp op t (.int k p) (.int k q) = Op.intCmp op p q) : (execOp a.eval o).run P w = .ok (.value (.bool b)) w := by
 unfold execOp
 simp only [ho, hx, hy, Sem.run_bind, hop, hop2, hb, Result.andThen_ok]
 rfl
theorem ex_lss (w : World) (t t2 : Nat) (x y : Operand) (ho : o.op = .binOp .lss t x y t2) (k : IntKind) (p q : Int) (hx : a.eval x = .int k p) (hy : a.eval y = .int k q) (b : Bool) (hb : decide (p < q) = b) : (execOp a.eval o).run P w = .ok (.value (.bool b)) w :=
 ex_cmp w .lss t t2 x y ho k p q hx hy b (by rw [← hb]; rfl) (fun _ _ => rfl) (by simp [binOp])
theorem ex_gtr (w : World) (t t2 : Nat) (x y : Operand) (ho : o.op = .binOp .gtr t x y t2) (k : IntKind) (p q : Int) (hx : a.eval x = .int k p) (hy : a.eval y = .int k q) (b : Bool) (hb : decide (q < p) = b) : (execOp a.eval o).run P w = .ok (.value (.bool b)) w :=
 ex_cmp w .gtr t t2 x y ho k p q hx hy b (by rw [← hb]; rfl) (fun _ _ => rfl) (by simp [binOp])
theorem ex_eql (w : World) (t t2 : Nat) (x y : Operand) (ho : o.op = .binOp .eql t x y t2) (k : IntKind) (p q : Int) (hx : a.eval x = .int k p) (hy : a.eval y = .int k q) (b : Bool) (hb : decide (p = q) = b) : (execOp a.eval o).run P w = .ok (.value (.bool b)) w :=
 ex_cmp w .eql t t2 x y ho k p q hx hy b (by rw [← hb]; rfl) (fun _ _ => rfl) (by simp [binOp])
theorem ex_pick (w : World) (c x y : Operand) (ho : o.op = .pick c x y) (b : Bool) (v : Value) (hc : a.eval c = .bool b) (hv : (if b then a.eval x else a.eval y) = v) : (execOp a.eval o).run P w = .ok (.value v) w := by
 unfold execOp
 simp only [ho, hc, Sem.run_bind, asBool, Sem.run_pure, Result.andThen_ok, hv]
end Go.Proofs.YtkcechpaeilaeaaGreatDoor
namespace Go.Proofs.YtkcechpaeilaeaaGreatDoor
open Go.RowKit
variable {P : Program} {ops : Array Oper} {rest : List Oper} {o : Oper} {a : Act} {Q : Exit → Act → World → Prop} {K : Act → World → Prop}
theorem ex_call (w : World) (f : FuncId) (xs : Array Operand) (ats : Array TypeId) (ho : o.op = .call { callee := .value (.func f), args := xs, argTypes := ats }) {fn : Func} (hf : P.funcs[f]? = some fn) (hn : (fn.name == "runtime.NumGoroutine") = false) (hb : fn.body.isNone = false)
  (args : Array Value) (ha : xs.map a.eval = args) : (execOp a.eval o).run P w = .ok (.enter f args) w := by
 obtain ⟨dst, op, ty, pos, after, guard⟩ := o
 subst ho
 rw [execOp_call_go, ha]
 simp only [callFunc, Sem.run_bind, run_program, Result.andThen_ok, hf, hn, hb, Bool.false_eq_true, if_false, Sem.run_pure, Array.empty_append, Array.append_empty]
theorem ow_call {w : World} (f : FuncId) (xs : List Operand) (ats : Array TypeId) (ho : o.op = .call { callee := .value (.func f), args := xs.toArray, argTypes := ats }) {fn : Func} (hf : P.funcs[f]? = some fn) (hn : (fn.name == "runtime.NumGoroutine") = false) (hb : fn.body.isNone = false)
  (args : List Value) (ha : xs.map a.eval = args) {R : Ending → World → Prop} (hc : Calls P f args.toArray w R) (h : ∀ e w', R e w' → ∃ v, e = .returned v ∧ K (a.put o.dst v) w') : o.wp P a w K Q := by
 unfold Oper.wp
 rw [ex_call w f xs.toArray ats ho hf hn hb args.toArray (by rw [← ha]; simp), Oper.upon_enter]
 refine hc.mono fun e w' hr => ?_
 obtain ⟨v, rfl, hk⟩ := h e w' hr
 exact hk
theorem ex_assign (w : World) (x : Operand) (v : Value) (ho : o.op = .assign x) (hx : a.eval x = v) : (execOp a.eval o).run P w = .ok (.value v) w := by
 unfold execOp
 simp only [ho, hx, Sem.run_pure]
end Go.Proofs.YtkcechpaeilaeaaGreatDoor
namespace Go.Proofs.YtkcechpaeilaeaaGreatDoor
open Go
variable {P : Program} {ops : Array Oper} {Q : Exit → Act → World → Prop} {md : Region.Mode} {S : World → Prop} {nd : List Nat}
theorem wpAnyN_firstT {i : Nat} {oi : Oper} {v : Value} (T : List Nat) (hi : ops[i]? = some oi) (hsel : ∀ (j : Nat) (o : Oper) cs b, ops[j]? = some o → o.op ≠ .select cs b)
  (hQ : ∀ c a w, Q (.panic c) (a.put oi.dst v) w → Q (.panic c) a w)
  (hT : ∀ j ∈ T, ∃ oj, ops[j]? = some oj ∧ ∃ e ∈ oj.after, Region.binds md e = true ∧ (e.on = i ∨ e.on ∈ T)) :
  ∀ (fuel : Nat) (listed : Array Bool) (a : Act) (w : World),
   (∀ j ∈ T, listed.getD j true = false) →
   (∀ j oj, ops[j]? = some oj → j ≠ i → listed.getD j true = false → (∀ e ∈ oj.after, Region.binds md e = true → e.on ≠ i) → oi.apart ops oj = true ∧ (nd.contains j = true ∨ j ∈ T)) →
   i ∈ Region.ready md ops listed → YieldsIf P ops S oi v a → S w →
   wpAnyN P md ops Q S nd fuel (listed.setIfInBounds i true) (a.put oi.dst v) w → wpAnyN P md ops Q S nd (fuel + 1) listed a w := by
 intro fuel
 induction fuel with
 | zero =>
  intro listed a w _ _ hr hy hS H
  refine ⟨fun h => (by rw [h] at hr; cases hr), fun j hj => ?_⟩
  by_cases hji : j = i
  ·subst hji; exact hy.wpOp hi hS ⟨fun _ => hS, H⟩
  ·have := ready_mono hj hji
   rw [H.1] at this
   cases this
 | succ fuel ih =>
  intro listed a w hTl hfree hr hy hS H
  refine ⟨fun h => (by rw [h] at hr; cases hr), fun j hj => ?_⟩
  by_cases hji : j = i
  ·subst hji; exact hy.wpOp hi hS ⟨fun _ => hS, H⟩
  ·have h1 := H.2 j (ready_mono hj hji)
   obtain ⟨hjun, oj, hoj, hall⟩ := mem_ready.1 hj
   have hsome : ∀ k : Nat, listed.getD k true = false → listed[k]? ≠ some true := fun k h0 h1 => by
    rcases Nat.lt_or_ge k listed.size with h' | h'
    ·simp [h'] at h0 h1; rw [h0] at h1; cases h1
    ·simp [Array.getElem?_eq_none h'] at h1
   have hnot : ∀ e ∈ oj.after, Region.binds md e = true → e.on ≠ i := fun e he hb heq => by
    have h1 := hall e he hb
    have h0 := (mem_ready.1 hr).1
    rw [heq] at h1
    rcases Nat.lt_or_ge i listed.size with h' | h'
    ·simp [h'] at h0 h1; rw [h0] at h1; cases h1
    ·simp [Array.getElem?_eq_none h'] at h1
   have hjT : j ∉ T := fun hm => by
    obtain ⟨oj', ho', e, he, hb, hon⟩ := hT j hm
    rw [hoj] at ho'
    injection ho' with ho'
    subst ho'
    have h1 := hall e he hb
    have h0 : listed.getD e.on true = false := by
     rcases hon with h | h
     ·exact absurd h (hnot e he hb)
     ·exact hTl _ h
    rcases Nat.lt_or_ge e.on listed.size with h' | h'
    ·simp [h'] at h0 h1; rw [h0] at h1; cases h1
    ·simp [Array.getElem?_eq_none h'] at h1
   have hf := hfree j oj hoj hji hjun hnot
   have hnd : nd.contains j = true := hf.2.resolve_right hjT
   have h2 := wpOp_putIf hoj hf.1 (fun cs b => hsel i oi cs b hi) (fun cs b => hsel j oj cs b hoj) hQ hy h1
   have hTl' : ∀ k ∈ T, (listed.setIfInBounds j true).getD k true = false := fun k hk => by
    have hjk : j ≠ k := fun e => hjT (by rw [e]; exact hk)
    rw [getD_set_ne true hjk]
    exact hTl k hk
   have hfree' : ∀ k ok, ops[k]? = some ok → k ≠ i → (listed.setIfInBounds j true).getD k true = false →
     (∀ e ∈ ok.after, Region.binds md e = true → e.on ≠ i) → oi.apart ops ok = true ∧ (nd.contains k = true ∨ k ∈ T) := fun k ok hk hki hun hno => by
    refine hfree k ok hk hki ?_ hno
    by_cases hjk : j = k
    ·subst hjk; exact hjun
    ·rw [getD_set_ne true hjk] at hun; exact hun
   refine wpOp_mono (fun a' w' h3 => ⟨h3.2.1, ?_⟩) h2
   refine ih (listed.setIfInBounds j true) a' w' hTl' hfree' (ready_mono hr (Ne.symm hji)) h3.1 (h3.2.1 hnd) ?_
   rw [Array.setIfInBounds_comm _ _ hji]
   exact h3.2.2
def needT (md : Region.Mode) (ops : Array Oper) (listed : Array Bool) (nd : List Nat) (i : Nat) (T : List Nat) : Bool :=
 (T.all fun j => !(listed.getD j true) && match ops[j]? with
  | some oj => oj.after.any (fun e => Region.binds md e && (e.on == i || T.contains e.on))
  | none => false) &&
 (List.range ops.size).all fun j => j == i || listed.getD j true || nd.contains j || T.contains j || match ops[j]? with
  | some oj => oj.after.any (fun e => Region.binds md e && e.on == i)
  | none => true
theorem needT_T {listed : Array Bool} {i : Nat} {T : List Nat} (h : needT md ops listed nd i T = true) : (∀ j ∈ T, ∃ oj, ops[j]? = some oj ∧ ∃ e ∈ oj.after, Region.binds md e = true ∧ (e.on = i ∨ e.on ∈ T)) ∧ ∀ j ∈ T, listed.getD j true = false := by
 unfold needT at h
 simp only [Bool.and_eq_true] at h
 refine ⟨fun j hj => ?_, fun j hj => ?_⟩
 ·have h1 := List.all_eq_true.1 h.1 j hj
  simp only [Bool.and_eq_true] at h1
  cases ho : ops[j]? with
  | none => rw [ho] at h1; simp at h1
  | some oj =>
   rw [ho] at h1
   obtain ⟨e, he, hb⟩ := Array.any_eq_true'.1 h1.2
   simp only [Bool.and_eq_true, Bool.or_eq_true, beq_iff_eq] at hb
   exact ⟨oj, rfl, e, he, hb.1, hb.2.imp id (fun h => by simpa using h)⟩
 ·have h1 := List.all_eq_true.1 h.1 j hj
  simp only [Bool.and_eq_true] at h1
  simpa using h1.1
theorem needT_spec {listed : Array Bool} {i : Nat} {T : List Nat} (h : needT md ops listed nd i T = true) (j : Nat) (oj : Oper) (hj : ops[j]? = some oj) (hji : j ≠ i) (hun : listed.getD j true = false)
  (hno : ∀ e ∈ oj.after, Region.binds md e = true → e.on ≠ i) : nd.contains j = true ∨ j ∈ T := by
 unfold needT at h
 simp only [Bool.and_eq_true] at h
 have hlt := (Array.getElem?_eq_some_iff.1 hj).1
 have h1 := List.all_eq_true.1 h.2 j (List.mem_range.2 hlt)
 rw [hun, hj] at h1
 have h2 : (j == i) = false := by simpa using hji
 rw [h2] at h1
 simp only [Bool.false_or, Bool.or_eq_true] at h1
 rcases h1 with (h1 | h1) | h1
 ·exact .inl h1
 ·exact .inr (by simpa using h1)
 ·obtain ⟨e, he, hb⟩ := Array.any_eq_true'.1 h1
  simp only [Bool.and_eq_true, beq_iff_eq] at hb
  exact absurd hb.2 (hno e he hb.1)
theorem rn_takeT {i : Nat} {oi : Oper} {dst : Option Tmp} {v : Value} {fuel : Nat} {listed : Array Bool} {a : Act} {w : World} (T : List Nat) (hi : ops[i]? = some oi)
  (hb : (Region.noSelect ops && Region.free md ops listed i && (Region.ready md ops listed).contains i && needT md ops listed nd i T) = true)
  (hQ : ∀ c a w, Q (.panic c) (a.put dst v) w → Q (.panic c) a w) (hd : oi.dst = dst) (hw : Region.wanted oi (yielded ops a.tmps) = true) (hy : ∀ w, S w → (execOp a.eval oi).run P w = .ok (.value v) w) (hS : S w)
  (h : wpAnyN P md ops Q S nd fuel (listed.setIfInBounds i true) (a.put dst v) w) : wpAnyN P md ops Q S nd (fuel + 1) listed a w := by
 subst hd
 simp only [Bool.and_eq_true] at hb
 obtain ⟨⟨⟨hs, hf⟩, hr⟩, hn⟩ := hb
 obtain ⟨h1, h2⟩ := needT_T hn
 exact wpAnyN_firstT T hi (Region.noSelect_spec hs) hQ h1 fuel listed a w h2 (fun j oj hj hji hun hno => ⟨Region.free_spec hi hf j oj hj hji hun hno, needT_spec hn j oj hj hji hun hno⟩) (by simpa using hr) (.inl ⟨hw, hy⟩) hS h
end Go.Proofs.YtkcechpaeilaeaaGreatDoor
namespace Go.Proofs.YtkcechpaeilaeaaGreatDoor
open Go.RowKit
section
variable {P : Program} {o : Oper} {a : Act}
theorem sizeOf_run (w : World) {e : TypeId} {sz : Nat} (hs : (P.info? e).map (·.size) = some sz) : (sizeOf e).run P w = .ok sz w := by
 cases hq : P.info? e with
 | none => rw [hq] at hs; simp at hs
 | some i => rw [hq] at hs; simp at hs; simp [sizeOf, typeInfo, hq, hs]
theorem er_indexArr (w : World) (t e : Nat) (x i : Operand) (ho : o.op = .indexAddr t x i) (size n N : Nat) (ht : P.underlying t = some (.array N e)) (hs : (P.info? e).map (·.size) = some size) (b off r : Nat) (hr : off + n * size = r) (hx : a.eval x = .pointer (some ⟨b, off, none⟩)) (k : IntKind) (hi : a.eval i = .int k (n : Int)) (hn : n < N) :
  (execOp a.eval o).run P w = .ok (.value (.pointer (some ⟨b, r, none⟩))) w := by
 subst hr
 unfold execOp
 have hsz := sizeOf_run (P := P) w hs
 have c1 : (0 : Int) ≤ (n : Int) ∧ (n : Int) < (N : Int) := by omega
 simp only [ho, hx, hi, Instr.indexAt, asIntOf, Sem.run_bind, run_underlying ht, Result.andThen_ok, Sem.run_pure, Instr.sureAddr]
 simp only [c1, and_self, if_true, Sem.run_bind, hsz, Result.andThen_ok, Sem.run_pure, Int.toNat_natCast, Addr.add_mid]
theorem er_index (w : World) (t e : Nat) (x i : Operand) (ho : o.op = .indexAddr t x i) (size n : Nat) (ht : P.underlying t = some (.slice e)) (hs : (P.info? e).map (·.size) = some size) (b off len c r : Nat) (hr : off + n * size = r) (hx : a.eval x = .slice (some ⟨b, off, none⟩) len c) (k : IntKind) (hi : a.eval i = .int k (n : Int)) (hn : n < len) :
  (execOp a.eval o).run P w = .ok (.value (.pointer (some ⟨b, r, none⟩))) w := by
 subst hr
 exact ex_index w t e x i ho size n ht hs b off len c hx k hi hn
theorem er_field (w : World) (s k : Nat) (x : Operand) (ho : o.op = .fieldAddr s x k) (b off n f_off r : Nat) (hr : off + f_off = r) {fs : Array Field} {f : Field} (ht : P.underlying s = some (.struct fs)) (hf : fs[k]? = some f) (hn : (P.info? f.type).map (·.size) = some (n + 1)) (hoff : f.offset = f_off)
  (hx : a.eval x = .pointer (some ⟨b, off, none⟩)) : (execOp a.eval o).run P w = .ok (.value (.pointer (some ⟨b, r, none⟩))) w := by
 subst hr
 exact ex_field w s k x ho b off n f_off ht hf hn hoff hx
theorem ex_neq (w : World) (t t2 : Nat) (x y : Operand) (ho : o.op = .binOp .neq t x y t2) (k : IntKind) (p q : Int) (hx : a.eval x = .int k p) (hy : a.eval y = .int k q) (b : Bool) (hb : decide (p ≠ q) = b) : (execOp a.eval o).run P w = .ok (.value (.bool b)) w :=
 ex_cmp w .neq t t2 x y ho k p q hx hy b (by rw [← hb]; by_cases h : p = q <;> simp [Op.intCmp, h] <;> rfl) (fun _ _ => rfl) (by simp [binOp])
theorem ex_geq (w : World) (t t2 : Nat) (x y : Operand) (ho : o.op = .binOp .geq t x y t2) (k : IntKind) (p q : Int) (hx : a.eval x = .int k p) (hy : a.eval y = .int k q) (b : Bool) (hb : decide (q ≤ p) = b) : (execOp a.eval o).run P w = .ok (.value (.bool b)) w :=
 ex_cmp w .geq t t2 x y ho k p q hx hy b (by rw [← hb]; rfl) (fun _ _ => rfl) (by simp [binOp])
theorem ex_leq (w : World) (t t2 : Nat) (x y : Operand) (ho : o.op = .binOp .leq t x y t2) (k : IntKind) (p q : Int) (hx : a.eval x = .int k p) (hy : a.eval y = .int k q) (b : Bool) (hb : decide (p ≤ q) = b) : (execOp a.eval o).run P w = .ok (.value (.bool b)) w :=
 ex_cmp w .leq t t2 x y ho k p q hx hy b (by rw [← hb]; rfl) (fun _ _ => rfl) (by simp [binOp])
theorem ex_eqlB (w : World) (t t2 : Nat) (x y : Operand) (ho : o.op = .binOp .eql t x y t2) (ht : P.underlying t = some .bool) (p q : Bool) (hx : a.eval x = .bool p) (hy : a.eval y = .bool q) (b : Bool) (hb : (p == q) = b) : (execOp a.eval o).run P w = .ok (.value (.bool b)) w := by
 unfold execOp
 have hg : (eqGuard .eql t x y (.bool p) (.bool q)).run P w = .ok () w := by rfl
 simp only [ho, hx, hy, Sem.run_bind, hg, Result.andThen_ok, run_eql_bool w t p q ht, hb]
 rfl
theorem ex_add (w : World) (t t2 : Nat) (x y : Operand) (ho : o.op = .binOp .add t x y t2) (p q : Int) (hx : a.eval x = .int .i64 p) (hy : a.eval y = .int .i64 q) (h0 : -9223372036854775808 ≤ p + q) (h1 : p + q ≤ 9223372036854775807) :
  (execOp a.eval o).run P w = .ok (.value (.int .i64 (p + q))) w := by
 unfold execOp
 have hw : IntKind.i64.wrap (p + q) = p + q := by rw [IntKind.wrap_i64]; omega
 simp only [ho, hx, hy, Sem.run_bind]
 have hg : (eqGuard .add t x y (.int .i64 p) (.int .i64 q)).run P w = .ok () w := by rfl
 have hb : (binOp .add t (.int .i64 p) (.int .i64 q)).run P w = .ok (.int .i64 (p + q)) w := by
  simp only [binOp, Op.intArith, hw, ne_eq, not_true_eq_false, if_false]
  rfl
 rw [hg]
 simp only [Result.andThen_ok, hb]
 rfl
theorem er_add (w : World) (t t2 : Nat) (x y : Operand) (ho : o.op = .binOp .add t x y t2) (p q r : Nat) (hr : p + q = r) (hx : a.eval x = .int .i64 (p : Int)) (hy : a.eval y = .int .i64 (q : Int)) (h1 : r ≤ 9223372036854775807) :
  (execOp a.eval o).run P w = .ok (.value (.int .i64 (r : Int))) w := by
 subst hr
 rw [Int.natCast_add]
 exact ex_add w t t2 x y ho _ _ hx hy (by omega) (by omega)
theorem er_mul (w : World) (t t2 : Nat) (x y : Operand) (ho : o.op = .binOp .mul t x y t2) (p q r : Nat) (hr : p * q = r) (hx : a.eval x = .int .i64 (p : Int)) (hy : a.eval y = .int .i64 (q : Int)) (h1 : r ≤ 9223372036854775807) :
  (execOp a.eval o).run P w = .ok (.value (.int .i64 (r : Int))) w := by
 subst hr
 rw [Int.natCast_mul]
 exact ex_mul w t t2 x y ho _ _ hx hy (by rw [← Int.natCast_mul]; omega) (by rw [← Int.natCast_mul]; omega)
theorem ex_not (w : World) (t : Nat) (x : Operand) (ho : o.op = .unOp .not t x) (b : Bool) (hx : a.eval x = .bool b) : (execOp a.eval o).run P w = .ok (.value (.bool (!b))) w := by
 unfold execOp
 simp only [ho, hx, Sem.run_bind]
 rfl
theorem er_cutLo (w : World) (t : Nat) (x l : Operand) (ho : o.op = .slice t x (some l) none none) {e : TypeId} (ht : P.underlying t = some (.slice e)) (sz : Nat) (hs : (P.info? e).map (·.size) = some sz) (b off len c n r : Nat) (hr : off + n * sz = r) (hx : a.eval x = .slice (some ⟨b, off, none⟩) len c) (k : IntKind) (hh : a.eval l = .int k (n : Int)) (hn : n ≤ len) (hc : n < c) :
  (execOp a.eval o).run P w = .ok (.value (.slice (some ⟨b, r, none⟩) (len - n) (c - n))) w := by
 subst hr
 unfold execOp
 have hsz := sizeOf_run (P := P) w hs
 have c1 : (0 : Int) ≤ (n : Int) ∧ (n : Int) ≤ (len : Int) := by omega
 have n0 : ¬ c = n := by omega
 simp only [ho, hx, hh, Instr.sliceAt, Option.map_none, Option.map_some, Sem.run_bind, run_underlying ht, Result.andThen_ok, Instr.slice, Sem.run_pure, Instr.sliceBounds, Instr.sliceBound, asIntOf, c1, and_self, if_true, Int.toNat_natCast, hsz, n0, if_false, Addr.add_mid]
theorem ex_bs1 (w : World) (t e : TypeId) (x : Operand) (ho : o.op = .buildSlice t 1 #[(0, x)]) (ht : P.underlying t = some (.slice e)) (vs : List Value) (hx : (a.eval x).cells = vs.toArray) (z : Value) (zs : List Value) (hz : (zeroValue e).run P w = .ok z w) (hzc : z.cells = zs.toArray)
  (hi : (P.info? e).map (·.size) = some vs.length) (hl : zs.length = vs.length) (h0 : 0 < vs.length) (hm : vs.length ≤ 16777216) :
  (execOp a.eval o).run P w = .ok (.value (.slice (some ⟨w.heap.size, 0, none⟩) 1 1)) (w.alloc (.cells vs.toArray e)) := by
 unfold execOp
 simp only [ho, Sem.run_bind]
 have hsz := sizeOf_run (P := P) w hi
 have hfill := fill_step (fun i => some (i * vs.length, vs.length)) zs vs 0 0 (a.eval x) hx [] (by simp) (by omega)
 have hrange : ((Array.range (1 * vs.length)).map (zs.toArray[· % zs.toArray.size]!)) = zs.toArray := by
  apply Array.ext'
  apply List.ext_getElem?
  intro i
  simp only [Array.toList_map, Array.toList_range, List.getElem?_map, Nat.one_mul, List.size_toArray]
  rcases Nat.lt_or_ge i vs.length with h | h
  ·rw [List.getElem?_range h]
   simp only [Option.map_some]
   rw [hl, Nat.mod_eq_of_lt h, List.getElem?_eq_getElem (by omega)]
   simp [hl, h]
  ·rw [List.getElem?_eq_none (by simpa using h), List.getElem?_eq_none (by omega)]; rfl
 have : (Instr.buildSlice t 1 #[(0, a.eval x)]).run P w = .ok (.slice (some ⟨w.heap.size, 0, none⟩) 1 1) (w.alloc (.cells vs.toArray e)) := by
  unfold Instr.buildSlice
  simp only [Sem.run_bind, run_underlying ht, Result.andThen_ok, hsz]
  have n1 : ¬ (1 * vs.length > 2 ^ 24) := by omega
  have n2 : ¬ (1 * vs.length = 0) := by omega
  simp only [n1, n2, if_false, Sem.run_bind, hz, Sem.run_pure, Result.andThen_ok, hzc, hrange, hfill, splice_all zs vs hl.symm]
  simp [Instr.fill, newRow, newObj, Sem.run]
 have he : (#[(0, x)] : Array (Nat × Operand)).map (fun (i, x) => (i, a.eval x)) = #[(0, a.eval x)] := by simp
 rw [he, this]
 rfl
end
end Go.Proofs.YtkcechpaeilaeaaGreatDoor
namespace Go.Proofs.YtkcechpaeilaeaaGreatDoor
open Go.RowKit
variable {P : Program} {ops : Array Oper} {rest : List Oper} {o : Oper} {a : Act} {Q : Exit → Act → World → Prop} {K : Act → World → Prop}
theorem run_append_zero (w : World) (t ty e : TypeId) (i : TypeInfo) (ht : P.underlying t = some (.slice e)) (hi : P.info? e = some i) (B : Option Addr) (n cap : Nat) (hn : n ≤ cap) (A : Option Addr) (c : Nat) :
  (Builtin.append_ #[t, t] ty #[.slice B n cap, .slice A 0 c]).run P w = .ok (.slice B n cap) w := by
 have hst : ∀ ad : Addr, (storeCells ad []).run P w = .ok () w := fun _ => rfl
 cases A with
 | none =>
  cases B with
  | none => simp [Builtin.append_, run_underlying ht, sizeOf, typeInfo, hi, Builtin.lenOf, hn, Builtin.firstCells]
  | some b => simp [Builtin.append_, run_underlying ht, sizeOf, typeInfo, hi, Builtin.lenOf, hn, Builtin.firstCells, hst]
 | some ad =>
  have hf := run_firstCells_some (P := P) w i.size 0 ad 0 c [] (by simp) (by simp)
  cases B with
  | none => simp [Builtin.append_, run_underlying ht, sizeOf, typeInfo, hi, Builtin.lenOf, hn, hf]
  | some b => simp [Builtin.append_, run_underlying ht, sizeOf, typeInfo, hi, Builtin.lenOf, hn, hf, hst]
theorem ownsRow_cap {w : World} {base : Nat} {e : TypeId} {size n : Nat} {v : Value} {xs : List Value} (h : w.ownsRow base e size v n xs) : ∃ A c, v = .slice A n c ∧ n ≤ c := by
 rcases h.2 with ⟨rfl, rfl⟩ | ⟨g, cap, cur, rfl, hg, hh, r, _⟩
 ·exact ⟨_, _, rfl, Nat.le_refl _⟩
 ·exact ⟨_, _, rfl, r⟩
theorem ow_appendBs {w : World} (s x : Operand) (t : TypeId) (ho : o.op = .call { callee := .builtin .append, args := #[s, x], argTypes := #[t, t] })
  (e : TypeId) {z : Value} (ht : P.underlying t = some (.slice e)) (hinf : (P.info? e).map (fun i => (i.zero, i.size, i.bytes)) = some (some z, 1, 1)) (hzs : z.cells.size = 1)
  (v : Value) (xs : List Int) (hs : a.eval s = v) (hown : w.ownsRow 0 e 1 v xs.length (u8s xs))
  (y : Value) (l : List Int) (hx : a.eval x = y) (hy : Bs w y l) (h63 : xs.length + l.length ≤ 1000000000000)
  (h : ∀ v' w', w'.ownsRow 0 e 1 v' (xs ++ l).length (u8s (xs ++ l)) → Kp (fun k => v.ownBlock = some k) w w' → (∀ k, v'.ownBlock = some k → v.ownBlock = some k ∨ w.heap.size ≤ k) → K (a.put o.dst v') w') : o.wp P a w K Q := by
 obtain ⟨A, c, rfl, hc, hr⟩ := hy
 by_cases hl : l = []
 ·subst hl
  obtain ⟨i0, hi, hz0, hz1, hz2⟩ := info_parts hinf
  obtain ⟨B, cap, rfl, hcap⟩ := ownsRow_cap hown
  have hrun := run_append_zero (P := P) w t o.type e i0 ht hi B xs.length cap hcap A c
  refine ow_run (v := .slice B xs.length cap) (w' := w) (by
   unfold execOp
   simp only [ho, resolve, invoke, builtin, Sem.run_bind, Sem.run_pure, Result.andThen_ok, List.map_toArray, List.map_cons, List.map_nil, hs, hx, List.length_nil, hrun]) ?_
  rw [List.append_nil] at h
  exact h _ w hown (Kp.refl _ _) (fun k hk => .inl hk)
 ·rcases hr with hr | ⟨b, off, rfl, hr⟩
  ·exact absurd hr hl
  ·have hpos : 0 < l.length := List.length_pos_iff.2 hl
   refine ow_append s x t ho e 1 1 ht hinf hzs (by omega) v xs.length (u8s xs) hs hown b off l.length c (u8s l) hx (by simp) hr (u8s_one l) (by simp only [maxLen]; omega) (by omega) hpos (fun v' w' h1 h2 h3 => ?_)
   refine h v' w' ?_ h2 h3
   rw [List.length_append, u8s_append]
   exact h1
theorem ownsRow_Bs' {w : World} {e : TypeId} {v : Value} {l : List Int} {n : Nat} (hn : n = l.length) (h : w.ownsRow 0 e 1 v n (u8s l)) : Bs w v l := by
 subst hn
 rcases h.2 with ⟨rfl, h0⟩ | ⟨g, cap, cur, rfl, _, hh, hc, _, hcs, ht⟩
 ·have : l = [] := List.eq_nil_of_length_eq_zero h0
  subst this
  exact ⟨none, 0, rfl, Nat.le_refl _, .inl rfl⟩
 ·refine ⟨some ⟨g, 0, none⟩, cap, rfl, hc, .inr ⟨g, 0, rfl, ?_⟩⟩
  have hb : Blk w g cur.toList e := by unfold Blk; rw [Array.toArray_toList]; exact hh
  have := hb.range 0 l.length
  rw [List.drop_zero] at this
  rw [Nat.mul_one] at ht
  rw [← ht]
  exact this
end Go.Proofs.YtkcechpaeilaeaaGreatDoor
namespace Go.Proofs.YtkcechpaeilaeaaGreatDoor
open Go Go.RowKit
section
variable {P : Program} {md : Region.Mode} {ops : Array Oper} {Q : Exit → Act → World → Prop} {S : World → Prop} {nd : List Nat}
def od : Oper := { dst := none, op := .alloc 0, type := 0, pos := "", after := #[], guard := none }
theorem U3 : Tryz.prog.underlying 3 = some (.int .i64) := Tryz.underlying3
theorem U5 : Tryz.prog.underlying 5 = some (.int .u8) := Tryz.underlying5
theorem U9 : Tryz.prog.underlying 9 = some (.string) := Tryz.underlying9
theorem U21 : Tryz.prog.underlying 21 = some (.int .i32) := Tryz.underlying21
theorem U22 : Tryz.prog.underlying 22 = some (.slice 5) := Tryz.underlying22
theorem U35 : Tryz.prog.underlying 35 = some (.slice 41) := Tryz.underlying35
theorem U47 : Tryz.prog.underlying 47 = some (.slice 100) := Tryz.underlying47
theorem U48 : Tryz.prog.underlying 48 = some (.slice 9) := Tryz.underlying48
theorem U51 : Tryz.prog.underlying 51 = some (.slice 24) := Tryz.underlying51
abbrev KZ (a w : World) : Prop := Kp (fun _ => False) a w
theorem Kp.th {S : Nat → Prop} {a b c : World} (h : Kp S a b) (k : Kp S b c) : Kp S a c := h.andThen k (fun _ _ h => h)
theorem uA {α : Type} (l : List α) (i : Nat) (a : α) : l.toArray.setIfInBounds i a = (l.set i a).toArray := List.setIfInBounds_toArray l i a
theorem uB {α : Type} {x : α} {xs : List α} {a : α} : (x :: xs).set 0 a = a :: xs := rfl
theorem uC {α : Type} {x : α} {xs : List α} {i : Nat} {a : α} : (x :: xs).set (i + 1) a = x :: xs.set i a := rfl
theorem rnM {o : Oper} {a : Act} {x : Operand} {v : Value} (ho : o.op = .move x) (hx : a.eval x = v) : ∀ w, S w → (execOp a.eval o).run P w = .ok (.value v) w := fun w _ => ex_move w x v ho hx
theorem rnA (i D : Nat) (v : Value) {fuel : Nat} {listed : Array Bool} {a : Act} {w : World} (hy : ∀ w, S w → (execOp a.eval (ops.getD i od)).run P w = .ok (.value v) w) (hS : S w)
 (h : wpAnyN P md ops Q S nd fuel (listed.setIfInBounds i true) (a.put (some D) v) w) (hi : ops[i]? = some (ops.getD i od) := by rfl)
 (hb : (Region.noSelect ops && Region.free md ops listed i && (Region.ready md ops listed).contains i && needB md ops listed nd i) = true := by kernel_rfl)
 (hd : (ops.getD i od).dst = some D := by rfl) (hw : Region.wanted (ops.getD i od) (yielded ops a.tmps) = true := by rfl) (hQ : ∀ c a w, Q (.panic c) (a.put (some D) v) w → Q (.panic c) a w := by exact fun _ _ _ h => h) : wpAnyN P md ops Q S nd (fuel + 1) listed a w := rn_take hi hb hQ hd hw hy hS h
theorem rnT (T : List Nat) (i D : Nat) (v : Value) {fuel : Nat} {listed : Array Bool} {a : Act} {w : World} (hy : ∀ w, S w → (execOp a.eval (ops.getD i od)).run P w = .ok (.value v) w) (hS : S w)
 (h : wpAnyN P md ops Q S nd fuel (listed.setIfInBounds i true) (a.put (some D) v) w) (hi : ops[i]? = some (ops.getD i od) := by rfl)
 (hb : (Region.noSelect ops && Region.free md ops listed i && (Region.ready md ops listed).contains i && needT md ops listed nd i T) = true := by kernel_rfl)
 (hd : (ops.getD i od).dst = some D := by rfl) (hw : Region.wanted (ops.getD i od) (yielded ops a.tmps) = true := by rfl) (hQ : ∀ c a w, Q (.panic c) (a.put (some D) v) w → Q (.panic c) a w := by exact fun _ _ _ h => h) : wpAnyN P md ops Q S nd (fuel + 1) listed a w := rn_takeT T hi hb hQ hd hw hy hS h
theorem rnP (i D : Nat) {fuel : Nat} {listed : Array Bool} {a : Act} {w : World} (hS : S w)
 (h : wpAnyN P md ops Q S nd fuel (listed.setIfInBounds i true) (a.put (some D) undef) w) (hi : ops[i]? = some (ops.getD i od) := by rfl)
 (hb : (Region.noSelect ops && Region.free md ops listed i && (Region.ready md ops listed).contains i && needB md ops listed nd i) = true := by kernel_rfl)
 (hd : (ops.getD i od).dst = some D := by rfl) (hw : Region.wanted (ops.getD i od) (yielded ops a.tmps) = false := by rfl) (hQ : ∀ c a w, Q (.panic c) (a.put (some D) undef) w → Q (.panic c) a w := by exact fun _ _ _ h => h) : wpAnyN P md ops Q S nd (fuel + 1) listed a w := rn_pass hi hb hQ hd hw hS h
theorem erF {o : Oper} {a : Act} (s k : Nat) (x : Operand) (ho : o.op = .fieldAddr s x k) (b off n f_off r : Nat) {fs : Array Field} {f : Field} (ht : P.underlying s = some (.struct fs)) (hf : fs[k]? = some f) (hr : off + f_off = r := by first | rfl | omega) (hn : (P.info? f.type).map (·.size) = some (n + 1) := by kernel_rfl) (hoff : f.offset = f_off := by rfl)
 (hx : a.eval x = .pointer (some ⟨b, off, none⟩) := by rfl) : ∀ w, S w → (execOp a.eval o).run P w = .ok (.value (.pointer (some ⟨b, r, none⟩))) w := fun w _ => er_field w s k x ho b off n f_off r hr ht hf hn hoff hx
theorem erI {o : Oper} {a : Act} (t e : Nat) (x i : Operand) (ho : o.op = .indexAddr t x i) (size n : Nat) (ht : P.underlying t = some (.slice e)) (b off len c r : Nat) (hs : (P.info? e).map (·.size) = some size := by kernel_rfl) (hr : off + n * size = r := by first | rfl | omega) (hx : a.eval x = .slice (some ⟨b, off, none⟩) len c := by rfl) (hi : a.eval i = .int .i64 (n : Int) := by rfl) (hn : n < len := by omega) :
 ∀ w, S w → (execOp a.eval o).run P w = .ok (.value (.pointer (some ⟨b, r, none⟩))) w := fun w _ => er_index w t e x i ho size n ht hs b off len c r hr hx .i64 hi hn
end
end Go.Proofs.YtkcechpaeilaeaaGreatDoor
