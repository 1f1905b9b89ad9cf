/- A line split at its blanks. -/
import Derived.Test.YtkcechpaeilaeaaGreatDoorAw
namespace Go.Proofs.YtkcechpaeilaeaaGreatDoor
open Go.RowKit
set_option linter.unusedVariables false
set_option linter.unusedSimpArgs false
set_option maxRecDepth 20000

theorem index_bl (s : List UInt8) : Lib.index s [32] = -1 ∨ ∃ i : Nat, Lib.index s [32] = i ∧ i < s.length := by
  rcases wd_split s with ⟨h1, _, _⟩ | ⟨h1, h2⟩
  · exact .inl (index_no_blank s h1)
  · refine .inr ⟨(wd s).length, ?_, ?_⟩
    · have := index_blank (wd s) (rs s) h1
      rw [← h2] at this
      exact this
    · have := congrArg List.length h2
      rw [List.length_append, List.length_cons] at this
      omega
theorem splitK_count : ∀ (f : Nat) (s : List UInt8), s.length < f → Lib.countFrom [32] f s ≤ s.length ∧ (Lib.splitK [32] 0 (Lib.countFrom [32] f s) s).length = Lib.countFrom [32] f s + 1 ∧ ∀ k, Lib.countFrom [32] f s ≤ k → Lib.splitK [32] 0 k s = Lib.splitK [32] 0 (Lib.countFrom [32] f s) s
  | 0, s, h => by omega
  | f + 1, s, h => by
    rcases index_bl s with hi | ⟨i, hi, hlt⟩
    · have e : Lib.countFrom [32] (f + 1) s = 0 := by simp [Lib.countFrom, hi]
      rw [e]
      refine ⟨by omega, rfl, fun k _ => ?_⟩
      cases k with
      | zero => rfl
      | succ k => simp [Lib.splitK, hi]
    · have hn : ¬ (Lib.index s [32] == -1) = true := by rw [hi]; simp
      have hd : (s.drop ((Lib.index s [32]).toNat + ([32] : List UInt8).length)).length < f := by
        rw [hi, List.length_drop]
        simp
        omega
      have hd2 : (s.drop ((Lib.index s [32]).toNat + ([32] : List UInt8).length)).length + 1 ≤ s.length := by
        rw [hi, List.length_drop]
        simp
        omega
      obtain ⟨h1, h2, h3⟩ := splitK_count f _ hd
      have e : Lib.countFrom [32] (f + 1) s = Lib.countFrom [32] f (s.drop ((Lib.index s [32]).toNat + ([32] : List UInt8).length)) + 1 := by
        rw [Lib.countFrom, if_neg hn, Nat.add_comm]
      rw [e]
      refine ⟨by omega, ?_, fun k hk => ?_⟩
      · rw [Lib.splitK, if_neg hn, List.length_cons, h2]
      · obtain ⟨k, rfl⟩ : ∃ j, k = j + 1 := ⟨k - 1, by omega⟩
        rw [Lib.splitK, if_neg hn, Lib.splitK, if_neg hn, h3 k (by omega)]
theorem spl_count (s : List UInt8) : spl s = Lib.splitK [32] 0 (Lib.count s [32]) s ∧ (spl s).length = Lib.count s [32] + 1 := by
  obtain ⟨h1, h2, h3⟩ := splitK_count (s.length + 1) s (by omega)
  have : spl s = Lib.splitK [32] 0 (Lib.count s [32]) s := h3 s.length h1
  exact ⟨this, by rw [this]; exact h2⟩
theorem splitK_word : ∀ (k : Nat) (s : List UInt8), ∀ x ∈ Lib.splitK [32] 0 k s, x.length ≤ s.length
  | 0, s, x, h => by simp [Lib.splitK] at h; subst h; exact Nat.le_refl _
  | k + 1, s, x, h => by
    rw [Lib.splitK] at h
    split at h
    · simp at h; subst h; exact Nat.le_refl _
    · rcases List.mem_cons.1 h with h | h
      · rw [h]; simp; omega
      · have := splitK_word k _ x h
        rw [List.length_drop] at this
        omega
/-- The words' cells. -/
def wcs (l : List (List UInt8)) : List Value := l.map (fun x => .string ⟨x.toArray⟩)
theorem split_at (l : List UInt8) (hl : l.length < 20000) {w : World} (hE : Ev w) : Calls Tryz.prog 52 #[.string ⟨l.toArray⟩, .string ⟨#[32]⟩] w fun e w' => e = .returned (.slice (some ⟨w.heap.size, 0, none⟩) (spl l).length (spl l).length) ∧ Blk w' w.heap.size (wcs (spl l)) 9 ∧ Kp (fun _ => False) w w' := by
  obtain ⟨m, hm⟩ := hE.ml
  refine (Tryz.strings_Split ⟨l.toArray⟩ ⟨#[32]⟩ m w (by rw [sz]; omega) hm (by decide)).mono ?_
  rintro e w' ⟨rfl, rfl⟩
  obtain ⟨h1, h2⟩ := spl_count l
  have hb := Lib.splitB_data ⟨#[32]⟩ 0 (Lib.count l [32]) ⟨l.toArray⟩
  have hc : (Lib.splitB ⟨#[32]⟩ 0 (Lib.count l [32]) ⟨l.toArray⟩).map Value.string = wcs (spl l) := by
    rw [h1, wcs, ← hb, List.map_map]
    refine List.map_congr_left fun b _ => ?_
    simp only [Function.comp_apply, Lib.mk_data]
  refine ⟨?_, ?_, (Kp.refl _ w).alloc _⟩
  · rw [h2]
  · have := Blk.new w (wcs (spl l)) 9
    rw [← hc] at this ⊢
    exact this
theorem spl_length (l : List UInt8) : (spl l).length ≤ l.length + 2 := by
  have := Lib.count_le l [32]
  have := (spl_count l).2
  omega
theorem spl_word (l : List UInt8) : ∀ x ∈ spl l, x.length ≤ l.length := splitK_word _ _
/-- The pick of a word. -/
def pickOf (x : List UInt8) : UInt8 := (num x % 256).toNat.toUInt8
theorem pickOf_z (x : List UInt8) : num x % 256 = ((pickOf x).toNat : Int) := by
  unfold pickOf
  simp
  omega
theorem readS_crash1 {d : Int} {r : List UInt8} (h1 : hk d = false) (h2 : hn d = false) (h3 : ht d = false) (hd : decide (d = 12) = true) (hr : r ≠ []) : readS d r = ⟨d, [], [], 0, (spl r).map pickOf⟩ := by
  have hd := of_decide_eq_true hd
  simp only [readS, h1, h2, h3, Bool.false_eq_true, if_false]
  rw [if_pos ⟨hd, hr⟩]
  rfl
theorem ex_tou8z {P : Program} {o : Oper} {a : Act} (w : World) (s d : TypeId) (x : Operand) (ho : o.op = .convert s d x) (hs : (P.underlying s).isSome = true) (hd : P.underlying d = some (.int .u8)) (k : IntKind) (c : Int) (hx : a.eval x = .int k c) :
    (execOp a.eval o).run P w = .ok (.value (.int .u8 (c % 256))) w := by
  unfold execOp
  have hk : P.intKind d = .u8 := by simp [Program.intKind, hd]
  have e := run_convert_int (P := P) w s d k c hs (by rw [hk]; exact hd)
  rw [hk] at e
  have hw : IntKind.u8.wrap c = c % 256 := by rw [IntKind.wrap_u8]
  rw [hw] at e
  simp only [ho, hx, Sem.run_bind, e, Result.andThen_ok, Sem.run_pure]
/-- An act of a crash that is being read. -/
structure Cw (w w3 : World) (Z B Sb : Nat) (d : Int) (ws : List (List UInt8)) (q : List UInt8) (Ap : Option Addr) (cp : Nat) : Prop where
  aw : Aw w w3 Z B d [] [] 0 q none 0 Ap cp
  ob : Ob (Sb + 1) w3 (.slice Ap q.length cp) (ints q)
  bl : Blk w3 Sb (wcs ws) 9
  lt : B < Sb
variable {w w3 w4 : World} {Z B Sb : Nat} {d : Int} {ws : List (List UInt8)} {q : List UInt8} {Ap : Option Addr} {cp : Nat}
theorem Cw.keep (h : Cw w w3 Z B Sb d ws q Ap cp) (hk : Kp (fun _ => False) w3 w4) : Cw w w4 Z B Sb d ws q Ap cp := ⟨h.aw.keep hk, h.ob.keep hk, hk.keeps h.bl id, h.lt⟩
theorem Cw.size (h : Cw w w3 Z B Sb d ws q Ap cp) : Sb + 1 ≤ w3.heap.size := blk_lt h.bl
theorem Cw.word (h : Cw w w3 Z B Sb d ws q Ap cp) {j : Nat} {x : List UInt8} (hx : ws[j]? = some x) : w3.cell? ⟨Sb, j, none⟩ = some (.string ⟨x.toArray⟩) := by
  rw [h.bl.cell j, wcs, List.getElem?_map, hx]; rfl
theorem Cw.start {wr w2 : World} (h : Aw w wr Z B d [] [] 0 [] none 0 none 0) (hk : Kp (fun _ => False) wr w2) (hb : Blk w2 wr.heap.size (wcs ws) 9) : Cw w w2 Z B wr.heap.size d ws [] none 0 := ⟨h.keep hk, Ob.nil _ _, hb, h.av.lt⟩
theorem Cw.start2 {wr w2 : World} (e : wr.heap.size = Sb) (h : Aw w wr Z B d [] [] 0 [] none 0 none 0) (hk : Kp (fun _ => False) wr w2) (hb : Blk w2 Sb (wcs ws) 9) : Cw w w2 Z B Sb d ws [] none 0 := by
  subst e; exact Cw.start h hk hb
/-- Behind an append to the picks. -/
structure Gw (w w4 : World) (Z B Sb : Nat) (d : Int) (ws : List (List UInt8)) (q q2 : List UInt8) (Ap A2 : Option Addr) (cp c2 : Nat) : Prop where
  av : Av w w4 Z B (.int .i64 d) (.string ⟨([] : List UInt8).toArray⟩) (.slice none ([] : List UInt8).length 0) (.int .i64 0) (.slice Ap q.length cp)
  ob : Ob (Sb + 1) w4 (.slice A2 q2.length c2) (ints q2)
  bl : Blk w4 Sb (wcs ws) 9
  lt : B < Sb
theorem Cw.grow (h : Cw w w3 Z B Sb d ws q Ap cp) {A2 : Option Addr} {c2 : Nat} {q2 : List UInt8} (ho : Ob (Sb + 1) w4 (.slice A2 q2.length c2) (ints q2)) (hb : Below (Sb + 1) w3 w4) : Gw w w4 Z B Sb d ws q q2 Ap A2 cp c2 := by
  have h0 := h.aw.av.hz
  have h1 := h.aw.av.ne
  have h2 := h.lt
  refine ⟨⟨?_, (hb.block Z (by omega)).trans h.aw.av.zero, (hb.block B (by omega)).trans h.aw.av.act, h.aw.av.hz, h.aw.av.ne⟩, ho, (hb.block Sb (by omega)).trans h.bl, h.lt⟩
  refine h.aw.av.old.trans ⟨hb.os, hb.tape, hb.output, hb.size, fun k hk => hb.block k (by omega)⟩
theorem Gw.done {w4 w5 : World} {q2 : List UInt8} {A2 : Option Addr} {c2 : Nat} (h : Gw w w4 Z B Sb d ws q q2 Ap A2 cp c2) (ha : Aw w w5 Z B d [] [] 0 q2 none 0 A2 c2) (hk : Kp (· = B) w4 w5) : Cw w w5 Z B Sb d ws q2 A2 c2 := by
  have h2 := h.lt
  refine ⟨ha, ⟨ownsRow_keep h.ob.own (fun b hb hs => hk.block b hs (fun e => by have := h.ob.new b hb; omega)), h.ob.new⟩, ?_, h.lt⟩
  exact hk.keeps h.bl (fun e => by omega)
theorem Gw.op {w4 : World} {q2 : List UInt8} {A2 : Option Addr} {c2 : Nat} (h : Gw w w4 Z B Sb d ws q q2 Ap A2 cp c2) : Ob (B + 1) w4 (.slice A2 q2.length c2) (ints q2) := ⟨h.ob.own, fun b hb => by have := h.ob.new b hb; have := h.lt; omega⟩
theorem ob_slice {b : Nat} {w : World} {v : Value} {l : List UInt8} (h : Ob b w v (ints l)) : ∃ A c, v = .slice A l.length c := by
  obtain ⟨A, c, e, _⟩ := h.bs
  exact ⟨A, c, by rw [e, ints_length]⟩
end Go.Proofs.YtkcechpaeilaeaaGreatDoor
