/- Joined out of: B1 Ob M1 Wq Mf Reg3 E1. -/
import Derived.Test.YtkcechpaeilaeaaGreatDoorK1
import Derived.Test.YtkcechpaeilaeaaGreatDoorK2
import Derived.Lib.FrozenHead2
import Derived.Lib.OthersKept
import Derived.Test.YtkcechpaeilaeaaGreatDoorK3
import Derived.Deep.Quiet
import Derived.Lib.ItoaLen
set_option linter.unusedVariables false
set_option linter.unusedSimpArgs false
namespace Go.Proofs.YtkcechpaeilaeaaGreatDoor
open Go.RowKit
set_option maxRecDepth 20000
def Bd (w : World) (b : Nat) (l : List UInt8) : Prop := Lib.IsBuilderF 64 5 b b (Lib.byteCells l) w
structure Wr (b : Nat) (w w' : World) : Prop where
 below : Below b w w'
 others : Lib.OthersKept 5 (some b) w w'
theorem Wr.refl (b : Nat) (w : World) : Wr b w w := ⟨Below.refl b w, Lib.OthersKept.refl _ _ _⟩
theorem Wr.trans {b : Nat} {x y z : World} (h : Wr b x y) (k : Wr b y z) : Wr b x z := ⟨h.below.trans k.below, h.others.trans k.others⟩
theorem Bd.lt {w : World} {b : Nat} {l : List UInt8} (h : Bd w b l) : b < w.heap.size := h.elim (fun h => h.lt) (fun h => h.lt)
theorem Bd.fresh (w : World) : Bd (w.alloc (.cells #[.pointer none, .slice none 0 0] 64)) w.heap.size [] := Lib.IsBuilderF.of (Lib.fresh_isBuilder 64 5 w)
abbrev Bu (w : World) (b : Nat) (bs : List Value) : Prop := Lib.BuilderAtF 64 5 b b (.pointer (some ⟨b, 0, none⟩)) bs w
theorem info64 : (Tryz.prog.info? 64).map (·.size) = some 2 := by kernel_rfl
theorem lies64 : liesAt Tryz.prog Tryz.prog.depth 64 (2 / Tryz.prog.cellsOf 64) 0 64 1 = true := by kernel_rfl
theorem info5b : (Tryz.prog.info? 5).map (fun i => (i.zero, i.size, i.bytes)) = some (some (.int .u8 0), 1, 1) := by kernel_rfl
theorem check_at {w : World} {b : Nat} {bs : List Value} (h : Lib.IsBuilderF 64 5 b b bs w) : Calls Tryz.prog 81 #[.pointer (some ⟨b, 0, none⟩)] w fun e w' => e = .returned (.tuple #[]) ∧ Bu w' b bs ∧ Wr b w w' := by
 obtain ⟨j, hj, hjs⟩ := Option.map_eq_some_iff.1 info64
 rcases h with h | h
 ·have c0 := h.cell0
  have f0 := h.frozen0
  have hsh := h.shape
  have h1 := Hd.mk h
  clear h
  go_enter Tryz.func81, Tryz.ntmps81
  go_wp2_with fail
  rw [Lib.run_to_unsafe w ⟨b, 0, none⟩ Tryz.underlying62 Tryz.underlying133 hj (by rw [hjs]; decide) hsh (Nat.zero_lt_succ 1)]
  simp only [Result.andThen]
  rw [Oper.upon_value]
  go_wp2_with fail
  rw [run_callFunc_extern Tryz.func104 (by kernel_rfl) (by kernel_rfl) (by kernel_rfl) (e := Extern.AbiNoEscape.same) (by kernel_rfl), Lib.run_noEscape]
  simp only [Result.andThen]
  rw [Oper.upon_value]
  go_wp2_with fail
  rw [Lib.run_from_unsafe w ⟨b, 0, none⟩ Tryz.underlying133 Tryz.underlying62 hj hsh lies64]
  simp only [Result.andThen]
  rw [Oper.upon_value]
  go_wp2_with fail
  go_end0
  exact ⟨rfl, h1.out.used _, (Below.refl b w).setCell (p := ⟨b, 0, none⟩) (Nat.le_refl _) _, (Lib.OthersKept.refl _ _ w).setCell ⟨b, 0, none⟩ rfl _⟩
 ·have c0 := h.cell0
  have h1 := Hd.mk h
  clear h
  go_enter Tryz.func81, Tryz.ntmps81
  go_wp2_with fail
  rw [Lib.run_neq_ptr_same w _ Tryz.underlying62 hj]
  go_wp2_with fail
  go_end0
  exact ⟨rfl, h1.out, Wr.refl b w⟩
theorem bu_put {w1 w2 : World} {b n : Nat} {v v' : Value} {xs bs' : List Value} (hbk : w1.heap[b]? = some (.cells #[.pointer (some ⟨b, 0, none⟩), v] 64 (0, 0))) (hown : w1.ownsRowF b 5 1 v n xs) (hne : v.ownBlock ≠ some b)
  (hgrow : w1.grownBy w2 v.ownBlock) (hown' : w2.ownsRowF b 5 1 v' bs'.length bs') :
  w2.heap[b]? = some (.cells #[.pointer (some ⟨b, 0, none⟩), v] 64 (0, 0)) ∧ Bu (w2.setCell ⟨b, 1, none⟩ v') b bs' ∧ Wr b w1 (w2.setCell ⟨b, 1, none⟩ v') := by
 have hlt := blk_lt hbk
 have hb2 : w2.heap[b]? = some (.cells #[.pointer (some ⟨b, 0, none⟩), v] 64 (0, 0)) := by
  rw [hgrow.block b hlt (fun e => hne e.symm)]; exact hbk
 exact ⟨hb2, Lib.BuilderAtF.put (Nat.le_refl _) hb2 hown' (by decide), ((Below.refl b w1).grown hgrow (by omega) (fun k hk => (hown.lt k hk).1)).setCell (p := ⟨b, 1, none⟩) (Nat.le_refl _) _,
  ((Lib.OthersKept.refl 5 (some b) w1).grown hgrow (Lib.ownsRowF_kind hown)).setCell ⟨b, 1, none⟩ rfl _⟩
set_option maxHeartbeats 1000000 in
theorem wbyte_at {w : World} {b : Nat} {l : List UInt8} (h : Bd w b l) (c : UInt8) (hl : l.length < 1000000000) : Calls Tryz.prog 59 #[.pointer (some ⟨b, 0, none⟩), .int .u8 (c.toNat : Int)] w fun e w' => e = .returned .nilIface ∧ Bd w' b (l ++ [c]) ∧ Wr b w w' := by
 obtain ⟨i0, hi, hz0, hz1, hz2⟩ := info_parts info5b
 have hlb : (Lib.byteCells l).length = l.length := Lib.byteCells_length l
 go_enter Tryz.func59, Tryz.ntmps59
 go_wp2_with (go_at_call 81; refine (check_at h).mono ?_)
 rintro e w1 ⟨rfl, h1, hw1⟩
 have hlt := h1.lt
 obtain ⟨_, v, hbk, hown, hne⟩ := h1
 have c0 : w1.cell? ⟨b, 0, none⟩ = some (.pointer (some ⟨b, 0, none⟩)) := by rw [Lib.cell_of_heap hbk]; rfl
 have c1 : w1.cell? ⟨b, 1, none⟩ = some v := by rw [Lib.cell_of_heap hbk]; rfl
 have Hown := Hd.mk hown
 have Hbk := Hd.mk hbk
 have Hne := Hd.mk hne
 have Hw := Hd.mk hw1
 have Hl := Hd.mk hl
 have Hlb := Hd.mk hlb
 clear hown hbk hne hw1 h hl hlb
 go_wp2_with (at_builtin; refine wpList_append_ownF _ rfl _ _ 22 rfl b 5 i0 (.int .u8 0) 1 1 U22 hi hz0 hz1 hz2 rfl (by decide) _ _ _ rfl (Hown.out.alloc _) ⟨w1.heap.size, 0, none⟩ 1 1 [.int .u8 c.toNat] rfl rfl ?c1 ?c2 ?c3 ?c4 ?c5 ?_)
 case c1 =>
  intro j u hj
  match j, hj with
  | 0, hj => simp at hj; subst hj; simp [Addr.add]
 case c2 => intro u hu; simp at hu; subst hu; rfl
 case c3 => have := Hl.out; have := Hlb.out; unfold maxLen; omega
 case c4 => have := Hl.out; have := Hlb.out; omega
 case c5 => simp; omega
 intro v' w2 hown' hgrow _
 have hbka : (w1.alloc (.cells #[.int .u8 c.toNat] 5)).heap[b]? = some (.cells #[.pointer (some ⟨b, 0, none⟩), v] 64 (0, 0)) := by
  rw [Lib.alloc_old w1 _ b hlt]; exact Hbk.out
 obtain ⟨hb2, hbu, hwr⟩ := bu_put (bs' := Lib.byteCells (l ++ [c])) hbka (Hown.out.alloc _) Hne.out hgrow (by
  have := hown'
  rw [Lib.byteCells_append]
  simpa [Lib.byteCells] using this)
 have d0 : w2.cell? ⟨b, 0, none⟩ = some (.pointer (some ⟨b, 0, none⟩)) := by rw [Lib.cell_of_heap hb2]; rfl
 have d1 : w2.cell? ⟨b, 1, none⟩ = some v := by rw [Lib.cell_of_heap hb2]; rfl
 have f1 : w2.frozen? ⟨b, 1, none⟩ = false := Lib.frozen_of_heap hb2 1
 obtain ⟨g, cap, rfl⟩ : ∃ g cap, v' = .slice (some ⟨g, 0, none⟩) ((Lib.byteCells l).length + 1) cap := by
  rcases hown'.2 with ⟨_, h0⟩ | ⟨g, cap, cur, fz, hv, _⟩
  ·omega
  ·exact ⟨g, cap, hv⟩
 have Hbu := Hd.mk hbu
 have Hwr := Hd.mk hwr
 clear hbu hwr hgrow hown' hbka hb2
 go_wp2_with fail
 go_ret
 exact ⟨rfl, .inr Hbu.out, Hw.out.trans (Wr.trans ⟨(Below.refl b w1).alloc (by omega) _, (Lib.OthersKept.refl _ _ _).alloc _⟩ Hwr.out)⟩
set_option maxHeartbeats 1000000 in
theorem wstr_at {w : World} {b : Nat} {l : List UInt8} (h : Bd w b l) (s : ByteArray) (hl : l.length < 1000000000) (hs : s.size < 1000000000) : Calls Tryz.prog 35 #[.pointer (some ⟨b, 0, none⟩), .string s] w fun e w' => (∃ x, e = .returned (.tuple #[x, .nilIface])) ∧ Bd w' b (l ++ s.data.toList) ∧ Wr b w w' := by
 obtain ⟨i0, hi, hz0, hz1, hz2⟩ := info_parts info5b
 have hlb : (Lib.byteCells l).length = l.length := Lib.byteCells_length l
 go_enter Tryz.func35, Tryz.ntmps35
 go_wp2_with (go_at_call 81; refine (check_at h).mono ?_)
 rintro e w1 ⟨rfl, h1, hw1⟩
 have hlt := h1.lt
 obtain ⟨_, v, hbk, hown, hne⟩ := h1
 have c0 : w1.cell? ⟨b, 0, none⟩ = some (.pointer (some ⟨b, 0, none⟩)) := by rw [Lib.cell_of_heap hbk]; rfl
 have c1 : w1.cell? ⟨b, 1, none⟩ = some v := by rw [Lib.cell_of_heap hbk]; rfl
 have Hown := Hd.mk hown
 have Hbk := Hd.mk hbk
 have Hne := Hd.mk hne
 have Hw := Hd.mk hw1
 have Hl := Hd.mk hl
 have Hlb := Hd.mk hlb
 clear hown hbk hne hw1 h hl hlb
 go_wp2_with (at_builtin; refine Lib.wpList_append_own_stringF _ rfl _ _ 22 9 rfl b 5 i0 U22 U9 hi hz0 hz1 hz2 _ _ _ rfl Hown.out s rfl ?c3 ?c4 ?c5 ?_)
 case c3 => have := Hl.out; have := Hlb.out; unfold maxLen; omega
 case c4 => have := Hl.out; have := Hlb.out; omega
 case c5 => omega
 intro v' w2 hown' hgrow _
 obtain ⟨hb2, hbu, hwr⟩ := bu_put (bs' := Lib.byteCells (l ++ s.data.toList)) Hbk.out Hown.out Hne.out hgrow (by
  have := hown'
  rw [Lib.byteCells_append]
  simpa [Lib.byteCells, Lib.strCells] using this)
 have d0 : w2.cell? ⟨b, 0, none⟩ = some (.pointer (some ⟨b, 0, none⟩)) := by rw [Lib.cell_of_heap hb2]; rfl
 have d1 : w2.cell? ⟨b, 1, none⟩ = some v := by rw [Lib.cell_of_heap hb2]; rfl
 have f1 : w2.frozen? ⟨b, 1, none⟩ = false := Lib.frozen_of_heap hb2 1
 obtain ⟨ao, n', cap, rfl⟩ : ∃ ao n' cap, v' = .slice ao n' cap := by
  rcases hown'.2 with ⟨hv, _⟩ | ⟨g, cap, cur, fz, hv, _⟩
  ·exact ⟨_, _, _, hv⟩
  ·exact ⟨_, _, _, hv⟩
 have Hbu := Hd.mk hbu
 have Hwr := Hd.mk hwr
 clear hbu hwr hgrow hown' hb2
 go_wp2_with fail
 go_ret2
 exact ⟨⟨_, rfl⟩, .inr Hbu.out, Hw.out.trans Hwr.out⟩
theorem bstr_at {w : World} {b : Nat} {l : List UInt8} (h : Bd w b l) : Calls Tryz.prog 36 #[.pointer (some ⟨b, 0, none⟩)] w fun e w' => e = .returned (.string ⟨l.toArray⟩) ∧ Bd w' b l ∧ Wr b w w' := by
 refine (Tryz.Builder_String_any_k b b l w h (Nat.le_of_lt h.lt)).mono ?_
 rintro e w' ⟨rfl, h1, h2, h3⟩
 exact ⟨rfl, h1, h2, h3⟩
theorem blen_at {w : World} {b : Nat} {l : List UInt8} (h : Bd w b l) : Calls Tryz.prog 37 #[.pointer (some ⟨b, 0, none⟩)] w fun e w' => e = .returned (.int .i64 (l.length : Int)) ∧ w = w' := by
 refine (Tryz.Builder_Len_f b b _ w h).mono ?_
 rintro e w' ⟨rfl, rfl⟩
 exact ⟨by rw [Lib.byteCells_length], rfl⟩
end Go.Proofs.YtkcechpaeilaeaaGreatDoor
namespace Go.Proofs.YtkcechpaeilaeaaGreatDoor
open Go.RowKit
variable {ops : Array Oper} {rest : List Oper} {o : Oper} {a : Act} {Q : Exit → Act → World → Prop} {K : Act → World → Prop}
theorem ownsRow_keep {w w' : World} {base : Nat} {e : TypeId} {size n : Nat} {v : Value} {xs : List Value} (h : w.ownsRow base e size v n xs) (hb : ∀ k, v.ownBlock = some k → k < w.heap.size → w'.heap[k]? = w.heap[k]?) : w'.ownsRow base e size v n xs := by
 obtain ⟨h1, h2⟩ := h
 refine ⟨h1, ?_⟩
 rcases h2 with h2 | ⟨g, cap, cur, rfl, hg, hh, r⟩
 ·exact .inl h2
 ·exact .inr ⟨g, cap, cur, rfl, hg, (hb g rfl (blk_lt hh)).trans hh, r⟩
structure Ob (b : Nat) (w : World) (v : Value) (l : List Int) : Prop where
 own : w.ownsRow 0 5 1 v l.length (u8s l)
 new : ∀ k, v.ownBlock = some k → b ≤ k
theorem Ob.bs {b : Nat} {w : World} {v : Value} {l : List Int} (h : Ob b w v l) : Bs w v l := ownsRow_Bs' rfl h.own
theorem Ob.nil (b : Nat) (w : World) : Ob b w (.slice none 0 0) [] := ⟨⟨rfl, .inl ⟨rfl, rfl⟩⟩, fun k hk => by cases hk⟩
theorem Ob.fresh (w : World) (b : Nat) (hb : b ≤ w.heap.size) : Ob b (w.alloc (.cells #[] 5)) (.slice (some ⟨w.heap.size, 0, none⟩) 0 0) [] :=
 ⟨⟨rfl, .inr ⟨w.heap.size, 0, #[], rfl, Nat.zero_le _, _root_.Go.heap_alloc_new w _, Nat.le_refl _, Nat.zero_le _, rfl, rfl⟩⟩, fun k hk => by cases hk; exact hb⟩
theorem Ob.keep {b : Nat} {w w' : World} {v : Value} {l : List Int} (h : Ob b w v l) (hk : KZ w w') : Ob b w' v l :=
 ⟨ownsRow_keep h.own (fun k hk' hs => hk.block k hs id), h.new⟩
theorem Kp.toBelow {S : Nat → Prop} {w w' : World} {b : Nat} (h : Kp S w w') (hb : b ≤ w.heap.size) (hS : ∀ k, S k → b ≤ k) : Below b w w' :=
 ⟨h.os, h.tape, h.output, h.size, fun k hk => by
  refine h.block k (by omega) (fun hs => ?_)
  have := hS k hs
  omega⟩
theorem Kp.see {S : Nat → Prop} {w w' : World} (h : Kp S w w') {ad : Addr} {v : Value} (hc : w.cell? ad = some v) (hs : ¬ S ad.block) : w'.cell? ad = some v := by
 rw [World.cell?_of_block (w := w) (w' := w') (h.block _ (World.block_lt_of_cell? w _ hc) hs)]; exact hc
theorem bsee {b : Nat} {w w' : World} (h : Below b w w') {ad : Addr} {v : Value} (hc : w.cell? ad = some v) (hb : ad.block < b) : w'.cell? ad = some v := by
 rw [World.cell?_of_block (w := w) (w' := w') (h.block _ hb)]; exact hc
theorem bs_at {w : World} {A : Option Addr} {n cp : Nat} {l : List UInt8} (h : Bs w (.slice A n cp) (ints l)) {k : Nat} (hk : k < l.length) : ∃ b o, A = some ⟨b, o, none⟩ ∧ w.cell? ⟨b, o + k, none⟩ = some (.int .u8 (l[k].toNat : Int)) ∧ b < w.heap.size := by
 obtain ⟨A', cp', hA, hc', hr⟩ := h
 injection hA with hA1 hA2 hA3
 subst hA1
 rcases hr with e | ⟨b, o, e, h⟩
 ·have : (ints l).length = 0 := by rw [e]; rfl
  rw [ints_length] at this
  omega
 ·have hc := h k _ (ints_get l k hk)
  exact ⟨b, o, e, hc, World.block_lt_of_cell? w _ hc⟩
theorem ow_ob {b : Nat} {w : World} (s x : Operand) (ho : o.op = .call { callee := .builtin .append, args := #[s, x], argTypes := #[22, 22] }) (v : Value) (xs : List Int) (hs : a.eval s = v) (hown : Ob b w v xs) (hb : b ≤ w.heap.size)
  (y : Value) (l : List Int) (hx : a.eval x = y) (hy : Bs w y l) (h63 : xs.length + l.length ≤ 1000000000000)
  (h : ∀ v' w', Ob b w' v' (xs ++ l) → Below b w w' → K (a.put o.dst v') w') : o.wp Tryz.prog a w K Q :=
 ow_appendBs s x 22 ho 5 U22 info5b rfl v xs hs hown.own y l hx hy h63 (fun v' w' h1 h2 h3 => h v' w' ⟨h1, fun k hk => (h3 k hk).elim (hown.new k) (fun h => Nat.le_trans hb h)⟩ (h2.toBelow hb (fun k hk => hown.new k hk)))
theorem wl_ob {b : Nat} {w : World} (hg : o.guard = none) (s x : Operand) (ho : o.op = .call { callee := .builtin .append, args := #[s, x], argTypes := #[22, 22] }) (v : Value) (xs : List Int) (hs : a.eval s = v) (hown : Ob b w v xs) (hb : b ≤ w.heap.size)
  (y : Value) (l : List Int) (hx : a.eval x = y) (hy : Bs w y l) (h63 : xs.length + l.length ≤ 1000000000000)
  (h : ∀ v' w', Ob b w' v' (xs ++ l) → Below b w w' → wpList Tryz.prog ops Q rest (a.put o.dst v') w') : wpList Tryz.prog ops Q (o :: rest) a w :=
 wpList_plain hg fun _ hK => ow_ob s x ho v xs hs hown hb y l hx hy h63 (fun v' w' a b => hK _ _ (h v' w' a b))
theorem zero5 (w : World) : (zeroValue 5).run Tryz.prog w = .ok (.int .u8 0) w := by kernel_rfl
theorem info5i : (Tryz.prog.info? 5).map (·.size) = some 1 := by kernel_rfl
theorem wl_lit1 {w : World} (hg : o.guard = none) (x : Operand) (ho : o.op = .buildSlice 22 1 #[(0, x)]) (n : Int) (hx : a.eval x = .int .u8 n)
  (h : ∀ v w', Bs w' v [n] → KZ w w' → wpList Tryz.prog ops Q rest (a.put o.dst v) w') : wpList Tryz.prog ops Q (o :: rest) a w :=
 wl_run hg (ex_bs w 22 5 1 [x] [n] ho U22 rfl (by simp [u8s, hx]) info5i (zero5 w) (.inl rfl)) (h _ _ (fresh_Bs w 5 [n]) ((Kp.refl _ w).alloc _))
theorem ow_lit3 {w : World} (x y z : Operand) (ho : o.op = .buildSlice 22 3 #[(0, x), (1, y), (2, z)]) (p q r : Int) (hx : a.eval x = .int .u8 p) (hy : a.eval y = .int .u8 q) (hz : a.eval z = .int .u8 r)
  (h : ∀ v w', Bs w' v [p, q, r] → KZ w w' → K (a.put o.dst v) w') : o.wp Tryz.prog a w K Q :=
 ow_run (ex_bs w 22 5 3 [x, y, z] [p, q, r] ho U22 rfl (by simp [u8s, hx, hy, hz]) info5i (zero5 w) (.inr rfl)) (h _ _ (fresh_Bs w 5 [p, q, r]) ((Kp.refl _ w).alloc _))
theorem ow_lit1 {w : World} (x : Operand) (ho : o.op = .buildSlice 22 1 #[(0, x)]) (n : Int) (hx : a.eval x = .int .u8 n)
  (h : ∀ v w', Bs w' v [n] → KZ w w' → K (a.put o.dst v) w') : o.wp Tryz.prog a w K Q :=
 ow_run (ex_bs w 22 5 1 [x] [n] ho U22 rfl (by simp [u8s, hx]) info5i (zero5 w) (.inl rfl)) (h _ _ (fresh_Bs w 5 [n]) ((Kp.refl _ w).alloc _))
end Go.Proofs.YtkcechpaeilaeaaGreatDoor
namespace Go.Proofs.YtkcechpaeilaeaaGreatDoor
open Go.RowKit
set_option maxRecDepth 100000
theorem hn_at (d : Int) (w : World) : Calls Tryz.prog 40 #[.int .i64 d] w fun e w' => e = .returned (.bool (hn d)) ∧ w = w' := by
 go_enter Tryz.func40, Tryz.ntmps40
 go_wp2_with fail
 all_goals go_ret
 all_goals refine ⟨congrArg (fun b => Ending.returned (.bool b)) ?_, rfl⟩
 all_goals (rw [Bool.eq_iff_iff]; simp [hn]; try omega)
theorem rn_at (d : Int) (w : World) : Calls Tryz.prog 47 #[.int .i64 d] w fun e w' => e = .returned (.bool (hn d)) ∧ w = w' := by
 go_enter Tryz.func47, Tryz.ntmps47
 go_wp2_with fail
 all_goals go_ret
 all_goals refine ⟨congrArg (fun b => Ending.returned (.bool b)) ?_, rfl⟩
 all_goals (rw [Bool.eq_iff_iff]; simp [hn]; try omega)
theorem hk_at (d : Int) (w : World) : Calls Tryz.prog 42 #[.int .i64 d] w fun e w' => e = .returned (.bool (hk d)) ∧ w = w' := by
 go_enter Tryz.func42, Tryz.ntmps42
 go_wp2_with fail
 all_goals go_ret
 all_goals refine ⟨congrArg (fun b => Ending.returned (.bool b)) ?_, rfl⟩
 all_goals (rw [Bool.eq_iff_iff]; simp [hk]; try omega)
theorem rk_at (d : Int) (w : World) : Calls Tryz.prog 46 #[.int .i64 d] w fun e w' => e = .returned (.bool (hk d)) ∧ w = w' := by
 go_enter Tryz.func46, Tryz.ntmps46
 go_wp2_with fail
 all_goals go_ret
 all_goals refine ⟨congrArg (fun b => Ending.returned (.bool b)) ?_, rfl⟩
 all_goals (rw [Bool.eq_iff_iff]; simp [hk]; try omega)
theorem ht_at (d : Int) (w : World) : Calls Tryz.prog 43 #[.int .i64 d] w fun e w' => e = .returned (.bool (ht d)) ∧ w = w' := by
 go_enter Tryz.func43, Tryz.ntmps43
 go_wp2_with fail
 all_goals go_ret
 all_goals refine ⟨congrArg (fun b => Ending.returned (.bool b)) ?_, rfl⟩
 all_goals (rw [Bool.eq_iff_iff]; simp [ht]; try omega)
theorem rt_at (d : Int) (w : World) : Calls Tryz.prog 49 #[.int .i64 d] w fun e w' => e = .returned (.bool (ht d)) ∧ w = w' := by
 go_enter Tryz.func49, Tryz.ntmps49
 go_wp2_with fail
 all_goals go_ret
 all_goals refine ⟨congrArg (fun b => Ending.returned (.bool b)) ?_, rfl⟩
 all_goals (rw [Bool.eq_iff_iff]; simp [ht]; try omega)
abbrev nmv : List Value := [.string ⟨#[]⟩, .string ⟨#[98, 101, 103, 105, 110]⟩, .string ⟨#[99, 111, 109, 109, 105, 116]⟩, .string ⟨#[97, 98, 111, 114, 116]⟩, .string ⟨#[97, 100, 100]⟩, .string ⟨#[117, 112, 100, 97, 116, 101]⟩, .string ⟨#[100, 101, 108, 101, 116, 101]⟩, .string ⟨#[103, 101, 116]⟩, .string ⟨#[115, 101, 97, 114, 99, 104]⟩, .string ⟨#[114, 97, 110, 107]⟩, .string ⟨#[99, 111, 109, 112, 97, 99, 116]⟩, .string ⟨#[97, 114, 109]⟩, .string ⟨#[99, 114, 97, 115, 104]⟩, .string ⟨#[111, 112, 101, 110]⟩, .string ⟨#[115, 116, 97, 116]⟩]
theorem nmv_at (k : Nat) (h : k < 15) : nmv[k]? = some (.string ⟨(nm (k : Int)).toArray⟩) := by
 match k, h with
 | 0, _ => rfl
 | 1, _ => rfl
 | 2, _ => rfl
 | 3, _ => rfl
 | 4, _ => rfl
 | 5, _ => rfl
 | 6, _ => rfl
 | 7, _ => rfl
 | 8, _ => rfl
 | 9, _ => rfl
 | 10, _ => rfl
 | 11, _ => rfl
 | 12, _ => rfl
 | 13, _ => rfl
 | 14, _ => rfl
theorem name_no (d : Int) (h : d < 1 ∨ 14 < d) (w : World) : Calls Tryz.prog 39 #[.int .i64 d] w fun e w' => e = .returned (.string ⟨(nm d).toArray⟩) ∧ KZ w w' := by
 rw [nm_nil h]
 rcases h with h | h
 all_goals (try have h1 : (1 : Int) ≤ d := by omega)
 all_goals (try have h2 : (15 : Int) ≤ d := by omega)
 all_goals go_enter Tryz.func39, Tryz.ntmps39
 all_goals go_wp2_with fail
 all_goals go_ret
 all_goals exact ⟨rfl, (Kp.refl _ w).alloc _⟩
theorem name_yes (k : Nat) (h1 : 1 ≤ k) (h2 : k ≤ 14) (w : World) : Calls Tryz.prog 39 #[.int .i64 (k : Int)] w fun e w' => e = .returned (.string ⟨(nm (k : Int)).toArray⟩) ∧ KZ w w' := by
 have i1 : (1 : Int) ≤ (k : Int) := by omega
 have i2 : (k : Int) < 15 := by omega
 have hc : (w.alloc (.cells nmv.toArray 114)).cell? ⟨w.heap.size, k, none⟩ = some (.string ⟨(nm (k : Int)).toArray⟩) := by
  rw [Lib.cell_of_heap (_root_.Go.heap_alloc_new w _)]
  have := nmv_at k (by omega)
  simpa using this
 generalize nm (k : Int) = s at *
 go_enter Tryz.func39, Tryz.ntmps39
 go_wp2_with fail
 go_ret
 exact ⟨rfl, (Kp.refl _ w).alloc _⟩
theorem name_at (d : Int) (w : World) : Calls Tryz.prog 39 #[.int .i64 d] w fun e w' => e = .returned (.string ⟨(nm d).toArray⟩) ∧ KZ w w' := by
 by_cases h : 1 ≤ d ∧ d ≤ 14
 ·obtain ⟨k, rfl⟩ : ∃ k : Nat, d = k := ⟨d.toNat, by omega⟩
  exact name_yes k (by omega) (by omega) w
 ·exact name_no d (by omega) w
theorem rname_at (k : Nat) (h2 : k ≤ 14) (w : World) : Calls Tryz.prog 45 #[.int .i64 (k : Int)] w fun e w' => e = .returned (.string ⟨(nm (k : Int)).toArray⟩) ∧ KZ w w' := by
 have i2 : (k : Int) < 15 := by omega
 have hc : (w.alloc (.cells nmv.toArray 9)).cell? ⟨w.heap.size, k, none⟩ = some (.string ⟨(nm (k : Int)).toArray⟩) := by
  rw [Lib.cell_of_heap (_root_.Go.heap_alloc_new w _)]
  have := nmv_at k (by omega)
  simpa using this
 generalize nm (k : Int) = s at *
 go_enter Tryz.func45, Tryz.ntmps45
 go_wp2_with fail
 go_ret
 exact ⟨rfl, (Kp.refl _ w).alloc _⟩
end Go.Proofs.YtkcechpaeilaeaaGreatDoor
namespace Go.Proofs.YtkcechpaeilaeaaGreatDoor
open Go.RowKit
variable {P : Program} {ops : Array Oper} {rest : List Oper} {o : Oper} {a : Act}
def gv (g : Bool) (v : Value) : Value := if g then v else undef
section
variable {Q : Exit → Act → World → Prop} {w : World}
end
section
variable {Q : Act → Prop} {C : World → Prop}
theorem wq_run {v : Value} (hg : o.guard = none) (hr : ∀ W, C W → (execOp a.eval o).run P W = .ok (.value v) W) (h : wpQuiet P ops C Q rest (a.put o.dst v)) : wpQuiet P ops C Q (o :: rest) a := by
 refine wpQuiet_step fun K hK => ?_
 rw [if_pos (by simp only [Region.wanted, hg])]
 refine ⟨v, fun W hW => ?_, hK _ h⟩
 unfold Oper.quietAt
 rw [hr W hW]
 exact ⟨rfl, rfl⟩
theorem wq_G {v : Value} (g : Bool) (hT : g = true → Region.wanted o (yielded ops a.tmps) = true) (hF : g = false → Region.wanted o (yielded ops a.tmps) = false) (hr : g = true → ∀ W, C W → (execOp a.eval o).run P W = .ok (.value v) W)
  (h : wpQuiet P ops C Q rest (a.put o.dst (gv g v))) : wpQuiet P ops C Q (o :: rest) a := by
 refine wpQuiet_step fun K hK => ?_
 cases g
 ·rw [if_neg (by rw [hF rfl]; decide)]
  exact hK _ h
 ·rw [if_pos (hT rfl)]
  refine ⟨v, fun W hW => ?_, hK _ h⟩
  unfold Oper.quietAt
  rw [hr rfl W hW]
  exact ⟨rfl, rfl⟩
theorem wq_callG (g : Bool) (f : FuncId) (xs : List Operand) (ats : Array TypeId) (ho : o.op = .call { callee := .value (.func f), args := xs.toArray, argTypes := ats }) {fn : Func} (hf : P.funcs[f]? = some fn) (hn : (fn.name == "runtime.NumGoroutine") = false) (hb : fn.body.isNone = false)
  (hT : g = true → Region.wanted o (yielded ops a.tmps) = true) (hF : g = false → Region.wanted o (yielded ops a.tmps) = false) (args : List Value) (ha : g = true → xs.map a.eval = args) (v : Value) (hc : g = true → ∀ W, C W → Calls P f args.toArray W fun e w' => e = .returned v ∧ C w')
  (h : wpQuiet P ops C Q rest (a.put o.dst (gv g v))) : wpQuiet P ops C Q (o :: rest) a := by
 refine wpQuiet_step fun K hK => ?_
 cases g
 ·rw [if_neg (by rw [hF rfl]; decide)]
  exact hK _ h
 ·rw [if_pos (hT rfl)]
  refine ⟨v, fun W hW => ?_, hK _ h⟩
  unfold Oper.quietAt
  rw [ex_call W f xs.toArray ats ho hf hn hb args.toArray (by rw [← ha rfl]; simp)]
  exact ⟨rfl, hc rfl W hW⟩
theorem wq_call (f : FuncId) (xs : List Operand) (ats : Array TypeId) (ho : o.op = .call { callee := .value (.func f), args := xs.toArray, argTypes := ats }) {fn : Func} (hf : P.funcs[f]? = some fn) (hn : (fn.name == "runtime.NumGoroutine") = false) (hb : fn.body.isNone = false)
  (hg : o.guard = none) (args : List Value) (ha : xs.map a.eval = args) (v : Value) (hc : ∀ W, C W → Calls P f args.toArray W fun e w' => e = .returned v ∧ C w')
  (h : wpQuiet P ops C Q rest (a.put o.dst v)) : wpQuiet P ops C Q (o :: rest) a :=
 wq_callG true f xs ats ho hf hn hb (fun _ => by simp only [Region.wanted, hg]) (fun h => by cases h) args (fun _ => ha) v (fun _ => hc) h
end
theorem wq_begin {id : Nat} {l : List Oper} {Q : Exit → Act → World → Prop} {w : World} (C : World → Prop) (hm : P.follows .mixedOrders = true) (hB : Region.lexB .any l.toArray = true) (hC : C w.drew)
  (h : wpQuiet P l.toArray C (fun a' => ∀ w', C w' → Q .normal a' w') l a) : (Code.region id l.toArray true).wp P Q a w :=
 wp_region_quiet (C := C) hm hB hC (by simpa using h)
end Go.Proofs.YtkcechpaeilaeaaGreatDoor
namespace Go.Proofs.YtkcechpaeilaeaaGreatDoor
open Go.RowKit
set_option maxRecDepth 100000
structure Fa (w : World) (b : Nat) (v0 v1 v2 v3 v4 : Value) : Prop where
 c0 : w.cell? ⟨b, 0, none⟩ = some v0
 c1 : w.cell? ⟨b, 1, none⟩ = some v1
 c2 : w.cell? ⟨b, 2, none⟩ = some v2
 c3 : w.cell? ⟨b, 3, none⟩ = some v3
 c4 : w.cell? ⟨b, 4, none⟩ = some v4
theorem Fa.new (w : World) (v0 v1 v2 v3 v4 : Value) : Fa (w.alloc (.cells #[v0, v1, v2, v3, v4] 24)) w.heap.size v0 v1 v2 v3 v4 := by
 constructor <;> (rw [Lib.cell_of_heap (_root_.Go.heap_alloc_new w _)]; rfl)
theorem Fa.keep {w w' : World} {b : Nat} {v0 v1 v2 v3 v4 : Value} (h : Fa w b v0 v1 v2 v3 v4) (hk : KZ w w') : Fa w' b v0 v1 v2 v3 v4 :=
 ⟨hk.see h.c0 id, hk.see h.c1 id, hk.see h.c2 id, hk.see h.c3 id, hk.see h.c4 id⟩
theorem may_bool (d : Int) (k t : List UInt8) (n : Int) (p : List UInt8) : decide (may ⟨d, k, t, n, p⟩) = (!(nm d == []) && !(hk d != (k != [])) && !decide ((2000 : Int) < (k.length : Int)) && !decide ((2000 : Int) < (t.length : Int)) && !(!ht d && decide ((0 : Int) < (t.length : Int))) && !(!hn d && decide (n ≠ 0))
  && !decide (n < 0) && !decide (1048576 < n) && (decide ((p.length : Int) ≤ 200) && (decide (d = 12) || decide ((p.length : Int) = 0)))) := by
 rw [Bool.eq_iff_iff]
 have e1 : (nm d == []) = false ↔ (1 ≤ d ∧ d ≤ 14) := by
  rw [beq_eq_false_iff_ne]
  constructor
  ·intro h
   refine Decidable.byContradiction fun h2 => h (nm_nil (by omega))
  ·intro h
   exact nm_ne_nil h.1 h.2
 have e2 : (decide (k ≠ []) = hk d) ↔ (hk d != (k != [])) = false := by
  cases k <;> cases hk d <;> simp
 have ez : ∀ l : List UInt8, (l = []) ↔ (l.length : Int) = 0 := fun l => by cases l <;> simp; omega
 simp only [may, decide_eq_true_eq, Bool.and_eq_true, Bool.not_eq_true', Bool.or_eq_true, decide_eq_false_iff_not, e1, e2, ez]
 clear e1 e2 ez
 generalize (hk d != (k != [])) = z
 cases z <;> cases ht d <;> cases hn d <;> by_cases hT : t = [] <;> by_cases hP : p = [] <;> simp [hT, hP] <;> omega
theorem rmay_bool {d : Int} {k t : List UInt8} {n : Int} {p : List UInt8} (h1 : 1 ≤ d) (h2 : d ≤ 14) (h3 : (k.length : Int) ≤ 2000) (h4 : (t.length : Int) ≤ 2000) (h5 : (p.length : Int) ≤ 200) (h6 : 0 ≤ n) (h7 : n ≤ 1048576) :
  decide (may ⟨d, k, t, n, p⟩) = ((((decide ((0 : Int) < (k.length : Int)) == hk d) && (decide ((t.length : Int) = 0) || ht d)) && (decide (n = 0) || hn d)) && (decide ((p.length : Int) = 0) || decide (d = 12))) := by
 rw [Bool.eq_iff_iff]
 have e2 : (decide (k ≠ []) = hk d) ↔ (decide ((0 : Int) < (k.length : Int)) == hk d) = true := by
  cases k <;> cases hk d <;> simp <;> omega
 have ez : ∀ l : List UInt8, (l = []) ↔ (l.length : Int) = 0 := fun l => by cases l <;> simp; omega
 simp only [may, decide_eq_true_eq, Bool.and_eq_true, Bool.or_eq_true, e2, ez]
 constructor
 ·rintro ⟨_, _, _, _, _, _, _, a, b, c, d⟩
  exact ⟨⟨⟨a, b⟩, c⟩, d⟩
 ·rintro ⟨⟨⟨a, b⟩, c⟩, d⟩
  exact ⟨h1, h2, by omega, by omega, by omega, h6, h7, a, b, c, d⟩
end Go.Proofs.YtkcechpaeilaeaaGreatDoor
namespace Go.Proofs.YtkcechpaeilaeaaGreatDoor
open Go
variable {P : Program} {ops : Array Oper} {Q : Exit → Act → World → Prop} {md : Region.Mode} {S : World → Prop} {nd : List Nat}
theorem rn_two {i j : Nat} {oi oj : Oper} {di dj : Option Tmp} {fuel : Nat} {listed : Array Bool} {a : Act} {w : World} (hi : ops[i]? = some oi) (hj : ops[j]? = some oj) (hr : Region.ready md ops listed = [i, j]) (hdi : oi.dst = di) (hdj : oj.dst = dj) (hwi : Region.wanted oi (yielded ops a.tmps) = true) (hwj : Region.wanted oj (yielded ops a.tmps) = true)
  (h1 : ∀ K : Act → World → Prop, (∀ v w', (nd.contains i = true → S w') → wpAnyN P md ops Q S nd fuel (listed.setIfInBounds i true) (a.put di v) w' → K (a.put oi.dst v) w') → oi.wp P a w K Q)
  (h2 : ∀ K : Act → World → Prop, (∀ v w', (nd.contains j = true → S w') → wpAnyN P md ops Q S nd fuel (listed.setIfInBounds j true) (a.put dj v) w' → K (a.put oj.dst v) w') → oj.wp P a w K Q) : wpAnyN P md ops Q S nd (fuel + 1) listed a w := by
 subst hdi hdj
 refine ⟨fun h0 => (by rw [hr] at h0; cases h0), fun k hk => ?_⟩
 rw [hr] at hk
 simp only [List.mem_cons, List.not_mem_nil, or_false] at hk
 rcases hk with rfl | rfl
 ·unfold wpOp
  simp only [hi]
  rw [if_pos hwi]
  exact .inl (h1 _ (fun v w' h1 h2 => ⟨h1, h2⟩))
 ·unfold wpOp
  simp only [hj]
  rw [if_pos hwj]
  exact .inl (h2 _ (fun v w' h1 h2 => ⟨h1, h2⟩))
section
variable {o : Oper} {a : Act}
theorem ex_quoK (w : World) (t t2 : TypeId) (x y : Operand) (ho : o.op = .binOp .quo t x y t2) (c m : Nat) (hm : 0 < m) (hc : c < 4000000000000000000) (hx : a.eval x = .int .i64 (c : Int)) (hy : a.eval y = .int .i64 (m : Int)) : (execOp a.eval o).run P w = .ok (.value (.int .i64 ((c / m : Nat) : Int))) w := by
 have hdm : c / m ≤ c := Nat.div_le_self _ _
 have hw : IntKind.i64.wrap ((c / m : Nat) : Int) = ((c / m : Nat) : Int) := by
  rw [IntKind.wrap_i64]
  generalize c / m = q at *
  omega
 have ht : ((c : Int).tdiv (m : Int)) = ((c / m : Nat) : Int) := by rw [Int.tdiv_eq_ediv_of_nonneg (by omega)]; simp
 have e : (binOp .quo t (.int .i64 (c : Int)) (.int .i64 (m : Int))).run P w = .ok (.int .i64 ((c / m : Nat) : Int)) w := by
  have hm0 : ¬ (m : Int) = 0 := by omega
  simp only [binOp_quo]
  rw [show Op.intDiv .quo .i64 (c : Int) (m : Int) = pure (.int .i64 (IntKind.i64.wrap ((c : Int).tdiv (m : Int)))) by simp only [Op.intDiv, hm0, if_false], ht, hw]
  rfl
 unfold execOp
 simp only [ho, hx, hy, Sem.run_bind, eqGuard_quo, e, Sem.run_pure, Result.andThen_ok]
theorem ex_remK (w : World) (t t2 : TypeId) (x y : Operand) (ho : o.op = .binOp .rem t x y t2) (c m : Nat) (hm : 0 < m) (hc : c < 4000000000000000000) (hx : a.eval x = .int .i64 (c : Int)) (hy : a.eval y = .int .i64 (m : Int)) : (execOp a.eval o).run P w = .ok (.value (.int .i64 ((c % m : Nat) : Int))) w := by
 have ht : ((c : Int).tmod (m : Int)) = ((c % m : Nat) : Int) := by rw [Int.tmod_eq_emod_of_nonneg (by omega)]; simp
 have e : (binOp .rem t (.int .i64 (c : Int)) (.int .i64 (m : Int))).run P w = .ok (.int .i64 ((c % m : Nat) : Int)) w := by
  have hm0 : ¬ (m : Int) = 0 := by omega
  simp only [binOp_rem]
  rw [show Op.intDiv .rem .i64 (c : Int) (m : Int) = pure (.int .i64 ((c : Int).tmod (m : Int))) by simp only [Op.intDiv, hm0, if_false], ht]
  rfl
 unfold execOp
 simp only [ho, hx, hy, Sem.run_bind, eqGuard_rem, e, Sem.run_pure, Result.andThen_ok]
end
end Go.Proofs.YtkcechpaeilaeaaGreatDoor
namespace Go.Proofs.YtkcechpaeilaeaaGreatDoor
open Go.RowKit
set_option maxRecDepth 100000
structure Ev (w : World) : Prop where
 ml : ∃ m, w.cell? ⟨0, 0, none⟩ = some (.int .i64 m)
 p10 : Lib.TabIs Tryz.prog w "internal/strconv.uint64pow10" .u64 Lib.pow10Tab
 syn : ∃ tp p, w.var? Tryz.prog "strconv.ErrSyntax" = some #[.iface tp p]
 rng : ∃ tp p, w.var? Tryz.prog "strconv.ErrRange" = some #[.iface tp p]
theorem var_keep {n : String} {cs : Array Value} {w w' : World} (h : w.var? Tryz.prog n = some cs) (hk : KZ w w') : w'.var? Tryz.prog n = some cs := by
 unfold World.var? at h ⊢
 cases hg : Tryz.prog.globalNamed n with
 | none => rw [hg] at h; exact h
 | some g =>
  rw [hg] at h
  simp only [Option.bind_some] at h ⊢
  cases hh : w.heap[g]? with
  | none => rw [hh] at h; simp at h
  | some o => rw [hh] at h; rw [hk.keeps hh id]; exact h
theorem Ev.keep {w w' : World} (h : Ev w) (hk : KZ w w') : Ev w' := by
 obtain ⟨⟨m, h1⟩, h2, ⟨a, b, h3⟩, ⟨c, d, h4⟩⟩ := h
 exact ⟨⟨m, hk.see h1 id⟩, var_keep h2 hk, ⟨a, b, var_keep h3 hk⟩, ⟨c, d, var_keep h4 hk⟩⟩
theorem kp_grow (w : World) (os : Array Obj) : KZ w (Go.Sort.grow w os) := by
 refine ⟨rfl, rfl, rfl, ?_, fun k hk _ => ?_⟩
 ·show w.heap.size ≤ (w.heap ++ os).size
  simp
 ·show (w.heap ++ os)[k]? = w.heap[k]?
  rw [Array.getElem?_append_left hk]
theorem itoa_at (n : Int) (h0 : -9223372036854775808 ≤ n) (h1 : n ≤ 9223372036854775807) {w : World} (hE : Ev w) : Calls Tryz.prog 41 #[.int .i64 n] w fun e w' => e = .returned (.string ⟨(Lib.itoa n).toArray⟩) ∧ KZ w w' := by
 refine (Tryz.strconv_Itoa n h0 h1 w hE.p10).mono ?_
 rintro e w' ⟨rfl, k, os, rfl⟩
 exact ⟨rfl, ((Kp.refl _ w).drewN k).th (kp_grow _ _)⟩
theorem digs_small {n : Nat} (h : n < 10) : Lib.itoa (n : Int) = [UInt8.ofNat (48 + n)] := by rw [Lib.itoa_nonneg, Lib.decDigits, dif_pos h]
theorem digs_big {n : Nat} (h : ¬ n < 10) : Lib.itoa (n : Int) = Lib.itoa ((n / 10 : Nat) : Int) ++ [UInt8.ofNat (48 + n % 10)] := by rw [Lib.itoa_nonneg, Lib.itoa_nonneg, Lib.decDigits, dif_neg h]
set_option maxHeartbeats 1000000 in
theorem number_at (n : Nat) : n < 1000000000 → ∀ w : World, Calls Tryz.prog 48 #[.int .i64 (n : Int)] w fun e w' => e = .returned (.string ⟨(Lib.itoa (n : Int)).toArray⟩) ∧ KZ w w' := by
 induction n using Nat.strongRecOn with
 | _ n ih =>
  intro hn w
  have hi : (n : Int) < 1000000000 := by omega
  by_cases h : n < 10
  ·have h2 : (n : Int) < 10 := by omega
   obtain ⟨u, hu⟩ : ∃ u : UInt8, Hd (Lib.itoa (n : Int) = [u] ∧ (48 + (n : Int)) = (u.toNat : Int)) := ⟨_, ⟨digs_small h, by simp; omega⟩⟩
   have hd := Hd.mk hu.out.1
   rw [hd.out]
   have hu2 := Hd.mk hu.out.2
   clear ih h
   go_enter Tryz.func48, Tryz.ntmps48
   go_wp2_with (first | ((with_reducible refine wl_lit1 rfl (.tmp 7) rfl (48 + (n : Int)) rfl ?_); intro v1 w1 hv1 hk1; rw [hu2.out] at hv1; have hv1 : Hd (Bs w1 v1 (ints [u])) := ⟨hv1⟩; have hk1 := Hd.mk hk1) | (with_reducible refine wl_run rfl (ex_tostr _ 22 9 5 (.tmp 8) rfl U22 U5 U9 v1 [u] hv1.out rfl) ?_))
   go_ret
   exact ⟨rfl, hk1.out⟩
  ·have h2 : (10 : Int) ≤ n := by omega
   obtain ⟨u, hu⟩ : ∃ u : UInt8, Hd (Lib.itoa (n : Int) = Lib.itoa ((n / 10 : Nat) : Int) ++ [u] ∧ (48 + ((n % 10 : Nat) : Int)) = (u.toNat : Int)) := ⟨_, ⟨digs_big h, by simp; omega⟩⟩
   have hd := Hd.mk hu.out.1
   rw [hd.out]
   have hu2 := Hd.mk hu.out.2
   have ih := Hd.mk (ih (n / 10) (by omega) (by omega))
   have hb : Hd (decide ((n : Int) < 10) = false) := ⟨decide_eq_false (by omega)⟩
   have hlen : Hd ((Lib.itoa ((n / 10 : Nat) : Int)).length ≤ 21) := ⟨Lib.itoa_length_le _ (by omega) (by omega)⟩
   have hu3 : Hd (((48 + n % 10 : Nat) : Int) = (u.toNat : Int)) := ⟨by have := hu2.out; omega⟩
   clear h h2 hi
   go_enter Tryz.func48, Tryz.ntmps48
   go_wp2_with ((with_reducible refine wl_run rfl (ex_lss _ 3 3 (.tmp 3) (.const (.int .i64 10)) rfl .i64 (n : Int) 10 rfl rfl false hb.out) ?_); simp only [Act.put, uA, uB, uC])
   have hS : Hd ((fun W : World => True) w.drew) := ⟨trivial⟩
   refine rn_begin (fun W : World => True) (List.range 11) (by kernel_rfl) ?_
   refine rnA 0 10 (.int .i64 ((n : Nat) : Int)) (rnM rfl rfl) hS.out ?_
   refine rnA 1 11 (.int .i64 ((n / 10 : Nat) : Int)) (fun W hW => ex_quoK W 3 _ _ _ rfl n 10 (by decide) (by omega) rfl rfl) hS.out ?_
   refine rnA 3 13 (.int .i64 ((n : Nat) : Int)) (rnM rfl rfl) hS.out ?_
   simp only [Act.put, uA, uB, uC]
   refine rnA 4 14 (.int .i64 ((n % 10 : Nat) : Int)) (fun W hW => ex_remK W 3 _ _ _ rfl n 10 (by decide) (by omega) rfl rfl) hS.out ?_
   refine rnA 5 15 (.int .i64 ((48 + n % 10 : Nat) : Int)) (fun W hW => er_add W 3 _ _ _ rfl 48 (n % 10) (48 + n % 10) (by first | rfl | omega) rfl rfl (by omega)) hS.out ?_
   refine rnA 6 16 (.int .u8 ((48 + n % 10 : Nat) : Int)) (fun W hW => ex_tou8 W 3 5 _ rfl (by kernel_rfl) U5 .i64 (48 + n % 10) (by omega) rfl) hS.out ?_
   simp only [Act.put, uA, uB, uC]
   clear hS
   refine rn_two (i := 2) (j := 7) (di := some 12) (dj := some 17) rfl rfl (by kernel_rfl) rfl rfl rfl rfl (fun K hK => ?_) (fun K hK => ?_)
   ·refine ow_call 48 _ _ rfl Tryz.func48 (by kernel_rfl) (by kernel_rfl) [.int .i64 ((n / 10 : Nat) : Int)] rfl (ih.out _) ?_
    rintro e w1 ⟨rfl, hkw1⟩
    refine ⟨_, rfl, hK _ _ (fun _ => trivial) ?_⟩
    have Kw1 := Hd.mk hkw1
    clear hK K hkw1
    simp only [Act.put, uA, uB, uC]
    refine rn_one (i := 7) (dst := some 17) rfl (by kernel_rfl) rfl rfl (fun K hK => ?_)
    refine ow_lit1 _ rfl ((48 + n % 10 : Nat) : Int) rfl ?_
    intro v1 w2 hv1 hkw2
    refine hK _ _ (fun _ => trivial) ?_
    rw [hu3.out] at hv1
    have Bw2 : Hd (Bs w2 v1 (ints [u])) := ⟨hv1⟩
    have Kw2 := Hd.mk hkw2
    clear hK K hkw2 hv1
    simp only [Act.put, uA, uB, uC]
    refine rn_one (i := 8) (dst := some 18) rfl (by kernel_rfl) rfl rfl (fun K hK => ?_)
    refine ow_run (ex_tostr _ 22 9 5 _ rfl U22 U5 U9 v1 [u] (Bw2.out) rfl) ?_
    refine hK _ _ (fun _ => trivial) ?_
    clear hK K
    simp only [Act.put, uA, uB, uC]
    have hS : Hd ((fun W : World => True) w2) := ⟨trivial⟩
    refine rnA 9 19 (.string ⟨(Lib.itoa ((n / 10 : Nat) : Int) ++ [u]).toArray⟩) (fun W hW => ex_scat W 9 _ _ _ rfl (Lib.itoa ((n / 10 : Nat) : Int)) [u] (by have := hlen.out; simp only [List.length_cons, List.length_nil]; omega) rfl rfl) hS.out ?_
    refine rnA 10 2 (.string ⟨(Lib.itoa ((n / 10 : Nat) : Int) ++ [u]).toArray⟩) (fun W hW => ex_assign W _ _ rfl rfl) hS.out ?_
    simp only [Act.put, uA, uB, uC]
    refine rn_done (by kernel_rfl) ?_ _
    go_wp2_with fail
    go_ret
    exact ⟨rfl, (((Kp.refl _ w).drew).th Kw1.out).th Kw2.out⟩
   ·refine ow_lit1 _ rfl ((48 + n % 10 : Nat) : Int) rfl ?_
    intro v1 w1 hv1 hkw1
    refine hK _ _ (fun _ => trivial) ?_
    rw [hu3.out] at hv1
    have Bw1 : Hd (Bs w1 v1 (ints [u])) := ⟨hv1⟩
    have Kw1 := Hd.mk hkw1
    clear hK K hkw1 hv1
    simp only [Act.put, uA, uB, uC]
    refine rn_two (i := 2) (j := 8) (di := some 12) (dj := some 18) rfl rfl (by kernel_rfl) rfl rfl rfl rfl (fun K hK => ?_) (fun K hK => ?_)
    ·refine ow_call 48 _ _ rfl Tryz.func48 (by kernel_rfl) (by kernel_rfl) [.int .i64 ((n / 10 : Nat) : Int)] rfl (ih.out _) ?_
     rintro e w2 ⟨rfl, hkw2⟩
     refine ⟨_, rfl, hK _ _ (fun _ => trivial) ?_⟩
     have Kw2 := Hd.mk hkw2
     clear hK K hkw2
     simp only [Act.put, uA, uB, uC]
     refine rn_one (i := 8) (dst := some 18) rfl (by kernel_rfl) rfl rfl (fun K hK => ?_)
     refine ow_run (ex_tostr _ 22 9 5 _ rfl U22 U5 U9 v1 [u] (Bs.keep Bw1.out (fun b hb _ => Kw2.out.below.block b hb)) rfl) ?_
     refine hK _ _ (fun _ => trivial) ?_
     clear hK K
     simp only [Act.put, uA, uB, uC]
     have hS : Hd ((fun W : World => True) w2) := ⟨trivial⟩
     refine rnA 9 19 (.string ⟨(Lib.itoa ((n / 10 : Nat) : Int) ++ [u]).toArray⟩) (fun W hW => ex_scat W 9 _ _ _ rfl (Lib.itoa ((n / 10 : Nat) : Int)) [u] (by have := hlen.out; simp only [List.length_cons, List.length_nil]; omega) rfl rfl) hS.out ?_
     refine rnA 10 2 (.string ⟨(Lib.itoa ((n / 10 : Nat) : Int) ++ [u]).toArray⟩) (fun W hW => ex_assign W _ _ rfl rfl) hS.out ?_
     simp only [Act.put, uA, uB, uC]
     refine rn_done (by kernel_rfl) ?_ _
     go_wp2_with fail
     go_ret
     exact ⟨rfl, (((Kp.refl _ w).drew).th Kw1.out).th Kw2.out⟩
    ·refine ow_run (ex_tostr _ 22 9 5 _ rfl U22 U5 U9 v1 [u] (Bw1.out) rfl) ?_
     refine hK _ _ (fun _ => trivial) ?_
     clear hK K
     simp only [Act.put, uA, uB, uC]
     refine rn_one (i := 2) (dst := some 12) rfl (by kernel_rfl) rfl rfl (fun K hK => ?_)
     refine ow_call 48 _ _ rfl Tryz.func48 (by kernel_rfl) (by kernel_rfl) [.int .i64 ((n / 10 : Nat) : Int)] rfl (ih.out _) ?_
     rintro e w2 ⟨rfl, hkw2⟩
     refine ⟨_, rfl, hK _ _ (fun _ => trivial) ?_⟩
     have Kw2 := Hd.mk hkw2
     clear hK K hkw2
     simp only [Act.put, uA, uB, uC]
     have hS : Hd ((fun W : World => True) w2) := ⟨trivial⟩
     refine rnA 9 19 (.string ⟨(Lib.itoa ((n / 10 : Nat) : Int) ++ [u]).toArray⟩) (fun W hW => ex_scat W 9 _ _ _ rfl (Lib.itoa ((n / 10 : Nat) : Int)) [u] (by have := hlen.out; simp only [List.length_cons, List.length_nil]; omega) rfl rfl) hS.out ?_
     refine rnA 10 2 (.string ⟨(Lib.itoa ((n / 10 : Nat) : Int) ++ [u]).toArray⟩) (fun W hW => ex_assign W _ _ rfl rfl) hS.out ?_
     simp only [Act.put, uA, uB, uC]
     refine rn_done (by kernel_rfl) ?_ _
     go_wp2_with fail
     go_ret
     exact ⟨rfl, (((Kp.refl _ w).drew).th Kw1.out).th Kw2.out⟩
end Go.Proofs.YtkcechpaeilaeaaGreatDoor
