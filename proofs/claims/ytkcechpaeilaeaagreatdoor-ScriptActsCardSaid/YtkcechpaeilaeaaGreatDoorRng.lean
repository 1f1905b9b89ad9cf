/- A loop over a map with int keys that nothing turns meanwhile. Nothing here names the program. -/
import Derived.Test.YtkcechpaeilaeaaGreatDoorMap
namespace Go.Proofs.YtkcechpaeilaeaaGreatDoor
open Go.RowKit
open Go.ChangeMaps (setBlock)
set_option linter.unusedSimpArgs false
variable {P : Program}

/-- Block it goes through the map in block m, which holds L; todo is still to come. lst: what came last. -/
def IRange (w : World) (m it : Nat) (L todo : List (Int × Value)) (lst : Option (Int × Value)) : Prop :=
  ∃ (t : List (Int × Value × Nat)) (clk : Nat) (seen : Array Nat), w.heap[m]? = some (.map (t.map ent).toArray clk) ∧ t.map pr = L ∧ (L.map (·.1)).Nodup ∧ (t.map (·.2.2)).Nodup ∧ (∀ x ∈ t, x.2.2 < clk) ∧
    w.heap[it]? = some (.mapIter (some m) clk seen clk) ∧ todo = (t.filter (fun x => !seen.contains x.2.2)).map pr ∧
    (∀ kv, lst = some kv → ∃ (seen0 : Array Nat) (b : Nat), seen = seen0.push b ∧ (kv.1, kv.2, b) ∈ t)

theorem IRange.map {w : World} {m it : Nat} {L todo : List (Int × Value)} {lst : Option (Int × Value)} (h : IRange w m it L todo lst) : IMap w m L := by
  obtain ⟨t, clk, seen, h1, h2, h3, h4, h5, -⟩ := h
  exact ⟨t, clk, h1, h2, h3, h4, h5⟩
theorem IRange.ne {w : World} {m it : Nat} {L todo : List (Int × Value)} {lst : Option (Int × Value)} (h : IRange w m it L todo lst) : m ≠ it := by
  obtain ⟨t, clk, seen, h1, h2, h3, h4, h5, h6, -⟩ := h
  rintro rfl
  rw [h1] at h6
  cases h6
theorem IRange.keep {w w' : World} {m it : Nat} {L todo : List (Int × Value)} {lst : Option (Int × Value)} (h : IRange w m it L todo lst) (h1 : w'.heap[m]? = w.heap[m]?) (h2 : w'.heap[it]? = w.heap[it]?) : IRange w' m it L todo lst := by
  obtain ⟨t, clk, seen, a1, a2, a3, a4, a5, a6, a7⟩ := h
  exact ⟨t, clk, seen, h1.trans a1, a2, a3, a4, a5, h2.trans a6, a7⟩
theorem IRange.lt {w : World} {m it : Nat} {L todo : List (Int × Value)} {lst : Option (Int × Value)} (h : IRange w m it L todo lst) : m < w.heap.size ∧ it < w.heap.size := by
  obtain ⟨t, clk, seen, h1, h2, h3, h4, h5, h6, -⟩ := h
  exact ⟨blk_lt h1, blk_lt h6⟩
theorem IRange.sub {w : World} {m it : Nat} {L todo : List (Int × Value)} {lst : Option (Int × Value)} (h : IRange w m it L todo lst) : ∀ x ∈ todo, x ∈ L := by
  obtain ⟨t, clk, seen, h1, rfl, h3, h4, h5, h6, rfl, -⟩ := h
  intro x hx
  obtain ⟨y, hy, rfl⟩ := List.mem_map.1 hx
  exact List.mem_map.2 ⟨y, (List.mem_filter.1 hy).1, rfl⟩

theorem IMap.run_range {w : World} {m : Nat} {L : List (Int × Value)} (h : IMap w m L) {t kt e : TypeId} (ht : P.underlying t = some (.map kt e)) :
    ∃ w', (Instr.range t (.map (some m))).run P w = .ok (.pointer (some ⟨w.heap.size, 0, none⟩)) w' ∧ IRange w' m w.heap.size L L none ∧ Kp (fun _ => False) w w' ∧ w'.heap.size = w.heap.size + 1 := by
  obtain ⟨tt, clk, hb, hL, hn, hnb, hlt⟩ := h
  refine ⟨w.alloc (.mapIter (some m) clk #[] clk), run_range_map w t kt e m _ clk ht hb, ⟨tt, clk, #[], ?_, hL, hn, hnb, hlt, _root_.Go.heap_alloc_new w _, ?_, by simp⟩, (Kp.refl _ w).alloc _, by simp⟩
  · rw [_root_.Go.heap_alloc_old w _ (blk_lt hb)]; exact hb
  · rw [← hL]; simp [List.filter_eq_self.2]

theorem leftOf_ent (t : List (Int × Value × Nat)) (seen : Array Nat) : (leftOf (t.map ent).toArray seen).toList = (t.filter (fun x => !seen.contains x.2.2)).map ent := by
  unfold leftOf
  simp only [Array.toList_filter, List.filter_map, List.toList_toArray]
  rfl
theorem mem_unique {t : List (Int × Value × Nat)} (hn : (t.map (·.2.2)).Nodup) {x y : Int × Value × Nat} (hx : x ∈ t) (hy : y ∈ t) (h : x.2.2 = y.2.2) : x = y := by
  induction t with
  | nil => cases hx
  | cons a r ih =>
    rw [List.map_cons, List.nodup_cons] at hn
    rcases List.mem_cons.1 hx with rfl | hx'
    · rcases List.mem_cons.1 hy with rfl | hy'
      · rfl
      · exact absurd (List.mem_map.2 ⟨y, hy', h.symm⟩) hn.1
    · rcases List.mem_cons.1 hy with rfl | hy'
      · exact absurd (List.mem_map.2 ⟨x, hx', h⟩) hn.1
      · exact ih hn.2 hx' hy'
theorem key_unique {t : List (Int × Value × Nat)} (hn : ((t.map pr).map (·.1)).Nodup) {x y : Int × Value × Nat} (hx : x ∈ t) (hy : y ∈ t) (h : x.1 = y.1) : x = y := by
  induction t with
  | nil => cases hx
  | cons a r ih =>
    rw [List.map_cons, List.map_cons, List.nodup_cons] at hn
    rcases List.mem_cons.1 hx with rfl | hx'
    · rcases List.mem_cons.1 hy with rfl | hy'
      · rfl
      · exact absurd (List.mem_map.2 ⟨pr y, List.mem_map.2 ⟨y, hy', rfl⟩, h.symm⟩) hn.1
    · rcases List.mem_cons.1 hy with rfl | hy'
      · exact absurd (List.mem_map.2 ⟨pr x, List.mem_map.2 ⟨x, hx', rfl⟩, h⟩) hn.1
      · exact ih hn.2 hx' hy'

/-- A step: nothing is left, or one, whichever, comes. -/
theorem IRange.run_next {w : World} {m it : Nat} {L todo : List (Int × Value)} {lst : Option (Int × Value)} (h : IRange w m it L todo lst) (ty : TypeId) :
    (todo = [] ∧ (Instr.next (.pointer (some ⟨it, 0, none⟩)) false ty).run P w = .ok (.tuple #[.bool false]) w) ∨
    ∃ k v w', (Instr.next (.pointer (some ⟨it, 0, none⟩)) false ty).run P w = .ok (.tuple #[.bool true, .int .i64 k, v]) w' ∧ (k, v) ∈ todo ∧ IRange w' m it L (todo.filter (fun x => x.1 != k)) (some (k, v)) ∧ Kp (· = it) w w' ∧
      (todo.filter (fun x => x.1 != k)).length < todo.length ∧ w'.heap.size = w.heap.size := by
  have hne := h.ne
  obtain ⟨t, clk, seen, hb, hL, hn, hnb, hlt, hit, htodo, -⟩ := h
  have hold : ∀ x ∈ (t.map ent).toArray.toList, x.born < clk := by
    intro x hx
    rw [List.toList_toArray] at hx
    obtain ⟨y, hy, rfl⟩ := List.mem_map.1 hx
    exact hlt y hy
  rcases run_next_at (P := P) w ty it m clk clk seen (t.map ent).toArray clk hit hb hold (Nat.le_refl _) with ⟨h0, hr⟩ | ⟨e, he, w1, hw1, hr⟩
  · left
    refine ⟨?_, hr⟩
    have : (leftOf (t.map ent).toArray seen).toList = [] := by
      apply List.eq_nil_of_length_eq_zero
      simpa using h0
    rw [leftOf_ent] at this
    rw [htodo]
    rw [List.map_eq_nil_iff] at this ⊢
    exact this
  · right
    rw [leftOf_ent] at he
    obtain ⟨x, hx, rfl⟩ := List.mem_map.1 he
    have hxt := (List.mem_filter.1 hx).1
    have hxs := (List.mem_filter.1 hx).2
    have hh : w1.heap = w.heap := by rcases hw1 with rfl | rfl <;> rfl
    have hitl := blk_lt hit
    have hkp : Kp (· = it) w (setBlock w1 it (.mapIter (some m) clk (seen.push (ent x).born) clk)) := by
      refine Kp.setObj ?_ it _ (.inr rfl)
      rcases hw1 with rfl | rfl
      · exact Kp.refl _ _
      · exact (Kp.refl _ _).drew
    have hmem : (x.1, x.2.1) ∈ todo := by rw [htodo]; exact List.mem_map.2 ⟨x, hx, rfl⟩
    have hf : todo.filter (fun y => y.1 != x.1) = (t.filter (fun y => !(seen.push x.2.2).contains y.2.2)).map pr := by
      rw [htodo, List.filter_map, List.filter_filter]
      congr 1
      apply List.filter_congr
      intro y hy
      have e1 : (seen.push x.2.2).contains y.2.2 = (seen.contains y.2.2 || y.2.2 == x.2.2) := contains_push seen x.2.2 y.2.2
      rw [e1]
      have e2 : ((fun y : Int × Value => y.1 != x.1) ∘ pr) y = !(y.2.2 == x.2.2) := by
        show (y.1 != x.1) = _
        by_cases e : y = x
        · subst e; simp
        · have a1 : y.1 ≠ x.1 := fun e' => e (key_unique (by rw [hL]; exact hn) hy hxt e')
          have a2 : y.2.2 ≠ x.2.2 := fun e' => e (mem_unique hnb hy hxt e')
          rw [bne_iff_ne.2 a1, beq_eq_false_iff_ne.2 a2]; rfl
      rw [e2]
      cases seen.contains y.2.2 <;> cases (y.2.2 == x.2.2) <;> rfl
    refine ⟨x.1, x.2.1, _, hr, hmem, ⟨t, clk, seen.push x.2.2, ?_, hL, hn, hnb, hlt, ?_, hf, ?_⟩, hkp, ?_, ?_⟩
    · have : (setBlock w1 it (.mapIter (some m) clk (seen.push (ent x).born) clk)).heap[m]? = w.heap[m]? := hkp.block m (blk_lt hb) hne
      rw [this]; exact hb
    · show (w1.heap.setIfInBounds it _)[it]? = _
      rw [hh, Array.getElem?_setIfInBounds_self_of_lt hitl]; rfl
    · intro kv hkv
      injection hkv with hkv
      subst hkv
      exact ⟨seen, x.2.2, rfl, hxt⟩
    · have hle : (todo.filter (fun y => y.1 != x.1)).length ≤ todo.length := List.length_filter_le _ _
      rcases Nat.lt_or_ge (todo.filter (fun y => y.1 != x.1)).length todo.length with hh | hh
      · exact hh
      · have : todo.filter (fun y => y.1 != x.1) = todo := List.Sublist.eq_of_length List.filter_sublist (by omega)
        rw [← this] at hmem
        have := (List.mem_filter.1 hmem).2
        simp at this
    · show (w1.heap.setIfInBounds it _).size = _
      rw [hh]; simp

theorem IRange.run_entry {w : World} {m it : Nat} {L todo : List (Int × Value)} {k : Int} {v : Value} (h : IRange w m it L todo (some (k, v))) :
    (Instr.entry (.pointer (some ⟨it, 0, none⟩))).run P w = .ok (.tuple #[.int .i64 k, v]) w := by
  obtain ⟨t, clk, seen, hb, hL, hn, hnb, hlt, hit, htodo, hl⟩ := h
  obtain ⟨seen0, b, rfl, hmem⟩ := hl _ rfl
  have hb2 : ((t.map ent).toArray.toList.map (·.born)).Nodup := by
    have : (t.map ent).toArray.toList.map (·.born) = t.map (·.2.2) := by simp [ent]
    rw [this]; exact hnb
  exact run_entry_at w it m clk seen0 (t.map ent).toArray clk (ent (k, v, b)) hit hb (by rw [List.toList_toArray]; exact List.mem_map.2 ⟨_, hmem, rfl⟩) hb2
end Go.Proofs.YtkcechpaeilaeaaGreatDoor
