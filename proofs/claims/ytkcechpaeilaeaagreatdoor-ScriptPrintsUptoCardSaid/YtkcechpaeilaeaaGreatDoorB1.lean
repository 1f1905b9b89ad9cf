/- A strings.Builder that the call has made: its writing methods over this dump (the shelf's own were laid over another text of copyCheck: here its last branch is a refusal). -/
import Derived.Test.YtkcechpaeilaeaaGreatDoorGa
import Derived.Test.YtkcechpaeilaeaaGreatDoorShelf
import Derived.Lib.FrozenHead2
import Derived.Lib.OthersKept
namespace Go.Proofs.YtkcechpaeilaeaaGreatDoor
open Go.RowKit
set_option linter.unusedVariables false
set_option linter.unusedSimpArgs false
set_option maxRecDepth 20000

/-- A builder in block b that holds the bytes l. -/
def Bd (w : World) (b : Nat) (l : List UInt8) : Prop := Lib.IsBuilderF 64 5 b b (Lib.byteCells l) w
/-- What a writing method leaves: below b, and besides b and the rows of bytes, all is as it was. -/
structure Wr (b : Nat) (w w' : World) : Prop where
  below : Below b w w'
  others : Lib.OthersKept 5 (some b) w w'
theorem Wr.refl (b : Nat) (w : World) : Wr b w w := ⟨Below.refl b w, Lib.OthersKept.refl _ _ _⟩
theorem Wr.trans {b : Nat} {x y z : World} (h : Wr b x y) (k : Wr b y z) : Wr b x z := ⟨h.below.trans k.below, h.others.trans k.others⟩
theorem Wr.kp {b : Nat} {w w' : World} (h : Wr b w w') : Kp (fun k => b ≤ k) w w' := ⟨h.below.os, h.below.tape, h.below.output, h.below.size, fun k hk hs => h.below.block k (by omega)⟩
theorem Bd.lt {w : World} {b : Nat} {l : List UInt8} (h : Bd w b l) : b < w.heap.size := h.elim (fun h => h.lt) (fun h => h.lt)
theorem Bd.fresh (w : World) : Bd (w.alloc (.cells #[.pointer none, .slice none 0 0] 64)) w.heap.size [] := Lib.IsBuilderF.of (Lib.fresh_isBuilder 64 5 w)
theorem Bd.alloc {w : World} {b : Nat} {l : List UInt8} (h : Bd w b l) (o : Obj) : Bd (w.alloc o) b l := Lib.IsBuilderF.alloc h o

/-- The builder behind copyCheck: its own address stands in it. -/
abbrev Bu (w : World) (b : Nat) (bs : List Value) : Prop := Lib.BuilderAtF 64 5 b b (.pointer (some ⟨b, 0, none⟩)) bs w
theorem info64 : (Tryz.prog.info? 64).map (·.size) = some 2 := by kernel_rfl
theorem lies64 : liesAt Tryz.prog Tryz.prog.depth 64 (2 / Tryz.prog.cellsOf 64) 0 64 1 = true := by kernel_rfl
theorem info5b : (Tryz.prog.info? 5).map (fun i => (i.zero, i.size, i.bytes)) = some (some (.int .u8 0), 1, 1) := by kernel_rfl
theorem info5s : (Tryz.prog.info? 5).map (·.size) = some 1 := by kernel_rfl
theorem check_at {w : World} {b : Nat} {bs : List Value} (h : Lib.IsBuilderF 64 5 b b bs w) : Calls Tryz.prog 81 #[.pointer (some ⟨b, 0, none⟩)] w fun e w' => e = .returned (.tuple #[]) ∧ Bu w' b bs ∧ Wr b w w' := by
  obtain ⟨j, hj, hjs⟩ := Option.map_eq_some_iff.1 info64
  rcases h with h | h
  · have c0 := h.cell0
    have f0 := h.frozen0
    have hsh := h.shape
    have h1 := Hd.mk h
    clear h
    go_enter Tryz.func81, Tryz.ntmps81
    go_wp2_with fail
    rw [Lib.run_to_unsafe w ⟨b, 0, none⟩ Tryz.underlying62 Tryz.underlying133 hj (by rw [hjs]; decide) hsh (Nat.zero_lt_succ 1)]
    simp only [Result.andThen]
    rw [Oper.upon_value]
    go_wp2_with fail
    rw [run_callFunc_extern Tryz.func104 (by kernel_rfl) (by kernel_rfl) (by kernel_rfl) (e := Extern.AbiNoEscape.same) (by kernel_rfl), Lib.run_noEscape]
    simp only [Result.andThen]
    rw [Oper.upon_value]
    go_wp2_with fail
    rw [Lib.run_from_unsafe w ⟨b, 0, none⟩ Tryz.underlying133 Tryz.underlying62 hj hsh lies64]
    simp only [Result.andThen]
    rw [Oper.upon_value]
    go_wp2_with fail
    go_end0
    exact ⟨rfl, h1.out.used _, (Below.refl b w).setCell (p := ⟨b, 0, none⟩) (Nat.le_refl _) _, (Lib.OthersKept.refl _ _ w).setCell ⟨b, 0, none⟩ rfl _⟩
  · have c0 := h.cell0
    have h1 := Hd.mk h
    clear h
    go_enter Tryz.func81, Tryz.ntmps81
    go_wp2_with fail
    rw [Lib.run_neq_ptr_same w _ Tryz.underlying62 hj]
    go_wp2_with fail
    go_end0
    exact ⟨rfl, h1.out, Wr.refl b w⟩
/-- Behind an append to the builder's row, and the store of what came of it. -/
theorem bu_put {w1 w2 : World} {b n : Nat} {v v' : Value} {xs bs' : List Value} (hbk : w1.heap[b]? = some (.cells #[.pointer (some ⟨b, 0, none⟩), v] 64 (0, 0))) (hown : w1.ownsRowF b 5 1 v n xs) (hne : v.ownBlock ≠ some b)
    (hgrow : w1.grownBy w2 v.ownBlock) (hown' : w2.ownsRowF b 5 1 v' bs'.length bs') :
    w2.heap[b]? = some (.cells #[.pointer (some ⟨b, 0, none⟩), v] 64 (0, 0)) ∧ Bu (w2.setCell ⟨b, 1, none⟩ v') b bs' ∧ Wr b w1 (w2.setCell ⟨b, 1, none⟩ v') := by
  have hlt := blk_lt hbk
  have hb2 : w2.heap[b]? = some (.cells #[.pointer (some ⟨b, 0, none⟩), v] 64 (0, 0)) := by
    rw [hgrow.block b hlt (fun e => hne e.symm)]; exact hbk
  exact ⟨hb2, Lib.BuilderAtF.put (Nat.le_refl _) hb2 hown' (by decide), ((Below.refl b w1).grown hgrow (by omega) (fun k hk => (hown.lt k hk).1)).setCell (p := ⟨b, 1, none⟩) (Nat.le_refl _) _,
    ((Lib.OthersKept.refl 5 (some b) w1).grown hgrow (Lib.ownsRowF_kind hown)).setCell ⟨b, 1, none⟩ rfl _⟩
set_option maxHeartbeats 1000000 in
theorem wbyte_at {w : World} {b : Nat} {l : List UInt8} (h : Bd w b l) (c : UInt8) (hl : l.length < 1000000000) : Calls Tryz.prog 59 #[.pointer (some ⟨b, 0, none⟩), .int .u8 (c.toNat : Int)] w fun e w' => e = .returned .nilIface ∧ Bd w' b (l ++ [c]) ∧ Wr b w w' := by
  obtain ⟨i0, hi, hz0, hz1, hz2⟩ := info_parts info5b
  have hlb : (Lib.byteCells l).length = l.length := Lib.byteCells_length l
  go_enter Tryz.func59, Tryz.ntmps59
  go_wp2_with (go_at_call 81; refine (check_at h).mono ?_)
  rintro e w1 ⟨rfl, h1, hw1⟩
  have hlt := h1.lt
  obtain ⟨_, v, hbk, hown, hne⟩ := h1
  have c0 : w1.cell? ⟨b, 0, none⟩ = some (.pointer (some ⟨b, 0, none⟩)) := by rw [Lib.cell_of_heap hbk]; rfl
  have c1 : w1.cell? ⟨b, 1, none⟩ = some v := by rw [Lib.cell_of_heap hbk]; rfl
  have Hown := Hd.mk hown
  have Hbk := Hd.mk hbk
  have Hne := Hd.mk hne
  have Hw := Hd.mk hw1
  have Hl := Hd.mk hl
  have Hlb := Hd.mk hlb
  clear hown hbk hne hw1 h hl hlb
  go_wp2_with (at_builtin; refine wpList_append_ownF _ rfl _ _ 22 rfl b 5 i0 (.int .u8 0) 1 1 Tryz.underlying22 hi hz0 hz1 hz2 rfl (by decide) _ _ _ rfl (Hown.out.alloc _) ⟨w1.heap.size, 0, none⟩ 1 1 [.int .u8 c.toNat] rfl rfl ?c1 ?c2 ?c3 ?c4 ?c5 ?_)
  case c1 =>
    intro j u hj
    match j, hj with
    | 0, hj => simp at hj; subst hj; simp [Addr.add]
  case c2 => intro u hu; simp at hu; subst hu; rfl
  case c3 => have := Hl.out; have := Hlb.out; unfold maxLen; omega
  case c4 => have := Hl.out; have := Hlb.out; omega
  case c5 => simp; omega
  intro v' w2 hown' hgrow _
  have hbka : (w1.alloc (.cells #[.int .u8 c.toNat] 5)).heap[b]? = some (.cells #[.pointer (some ⟨b, 0, none⟩), v] 64 (0, 0)) := by
    rw [Lib.alloc_old w1 _ b hlt]; exact Hbk.out
  obtain ⟨hb2, hbu, hwr⟩ := bu_put (bs' := Lib.byteCells (l ++ [c])) hbka (Hown.out.alloc _) Hne.out hgrow (by
    have := hown'
    rw [Lib.byteCells_append]
    simpa [Lib.byteCells] using this)
  have d0 : w2.cell? ⟨b, 0, none⟩ = some (.pointer (some ⟨b, 0, none⟩)) := by rw [Lib.cell_of_heap hb2]; rfl
  have d1 : w2.cell? ⟨b, 1, none⟩ = some v := by rw [Lib.cell_of_heap hb2]; rfl
  have f1 : w2.frozen? ⟨b, 1, none⟩ = false := Lib.frozen_of_heap hb2 1
  obtain ⟨g, cap, rfl⟩ : ∃ g cap, v' = .slice (some ⟨g, 0, none⟩) ((Lib.byteCells l).length + 1) cap := by
    rcases hown'.2 with ⟨_, h0⟩ | ⟨g, cap, cur, fz, hv, _⟩
    · omega
    · exact ⟨g, cap, hv⟩
  have Hbu := Hd.mk hbu
  have Hwr := Hd.mk hwr
  clear hbu hwr hgrow hown' hbka hb2
  go_wp2_with fail
  go_ret
  exact ⟨rfl, .inr Hbu.out, Hw.out.trans (Wr.trans ⟨(Below.refl b w1).alloc (by omega) _, (Lib.OthersKept.refl _ _ _).alloc _⟩ Hwr.out)⟩
set_option maxHeartbeats 1000000 in
theorem wstr_at {w : World} {b : Nat} {l : List UInt8} (h : Bd w b l) (s : ByteArray) (hl : l.length < 1000000000) (hs : s.size < 1000000000) : Calls Tryz.prog 35 #[.pointer (some ⟨b, 0, none⟩), .string s] w fun e w' => (∃ x, e = .returned (.tuple #[x, .nilIface])) ∧ Bd w' b (l ++ s.data.toList) ∧ Wr b w w' := by
  obtain ⟨i0, hi, hz0, hz1, hz2⟩ := info_parts info5b
  have hlb : (Lib.byteCells l).length = l.length := Lib.byteCells_length l
  go_enter Tryz.func35, Tryz.ntmps35
  go_wp2_with (go_at_call 81; refine (check_at h).mono ?_)
  rintro e w1 ⟨rfl, h1, hw1⟩
  have hlt := h1.lt
  obtain ⟨_, v, hbk, hown, hne⟩ := h1
  have c0 : w1.cell? ⟨b, 0, none⟩ = some (.pointer (some ⟨b, 0, none⟩)) := by rw [Lib.cell_of_heap hbk]; rfl
  have c1 : w1.cell? ⟨b, 1, none⟩ = some v := by rw [Lib.cell_of_heap hbk]; rfl
  have Hown := Hd.mk hown
  have Hbk := Hd.mk hbk
  have Hne := Hd.mk hne
  have Hw := Hd.mk hw1
  have Hl := Hd.mk hl
  have Hlb := Hd.mk hlb
  clear hown hbk hne hw1 h hl hlb
  go_wp2_with (at_builtin; refine Lib.wpList_append_own_stringF _ rfl _ _ 22 9 rfl b 5 i0 Tryz.underlying22 Tryz.underlying9 hi hz0 hz1 hz2 _ _ _ rfl Hown.out s rfl ?c3 ?c4 ?c5 ?_)
  case c3 => have := Hl.out; have := Hlb.out; unfold maxLen; omega
  case c4 => have := Hl.out; have := Hlb.out; omega
  case c5 => omega
  intro v' w2 hown' hgrow _
  obtain ⟨hb2, hbu, hwr⟩ := bu_put (bs' := Lib.byteCells (l ++ s.data.toList)) Hbk.out Hown.out Hne.out hgrow (by
    have := hown'
    rw [Lib.byteCells_append]
    simpa [Lib.byteCells, Lib.strCells] using this)
  have d0 : w2.cell? ⟨b, 0, none⟩ = some (.pointer (some ⟨b, 0, none⟩)) := by rw [Lib.cell_of_heap hb2]; rfl
  have d1 : w2.cell? ⟨b, 1, none⟩ = some v := by rw [Lib.cell_of_heap hb2]; rfl
  have f1 : w2.frozen? ⟨b, 1, none⟩ = false := Lib.frozen_of_heap hb2 1
  obtain ⟨ao, n', cap, rfl⟩ : ∃ ao n' cap, v' = .slice ao n' cap := by
    rcases hown'.2 with ⟨hv, _⟩ | ⟨g, cap, cur, fz, hv, _⟩
    · exact ⟨_, _, _, hv⟩
    · exact ⟨_, _, _, hv⟩
  have Hbu := Hd.mk hbu
  have Hwr := Hd.mk hwr
  clear hbu hwr hgrow hown' hb2
  go_wp2_with fail
  go_ret2
  exact ⟨⟨_, rfl⟩, .inr Hbu.out, Hw.out.trans Hwr.out⟩
theorem bstr_at {w : World} {b : Nat} {l : List UInt8} (h : Bd w b l) : Calls Tryz.prog 36 #[.pointer (some ⟨b, 0, none⟩)] w fun e w' => e = .returned (.string ⟨l.toArray⟩) ∧ Bd w' b l ∧ Wr b w w' := by
  refine (Tryz.Builder_String_any_k b b l w h (Nat.le_of_lt h.lt)).mono ?_
  rintro e w' ⟨rfl, h1, h2, h3⟩
  exact ⟨rfl, h1, h2, h3⟩
theorem blen_at {w : World} {b : Nat} {l : List UInt8} (h : Bd w b l) : Calls Tryz.prog 37 #[.pointer (some ⟨b, 0, none⟩)] w fun e w' => e = .returned (.int .i64 (l.length : Int)) ∧ w = w' := by
  refine (Tryz.Builder_Len_f b b _ w h).mono ?_
  rintro e w' ⟨rfl, rfl⟩
  exact ⟨by rw [Lib.byteCells_length], rfl⟩
end Go.Proofs.YtkcechpaeilaeaaGreatDoor
