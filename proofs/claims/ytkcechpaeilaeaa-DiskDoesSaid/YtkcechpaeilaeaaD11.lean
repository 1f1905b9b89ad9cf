/- maps.Clone, slices.Clone. -/
import Derived.Test.YtkcechpaeilaeaaL7
import Derived.WalkLawsBesides
import Derived.WalkSpells
import Derived.MapKept
import Derived.Laws.Externs
namespace Go.Proofs.Ytkcechpaeilaeaa
open Go.RowKit
set_option linter.unusedVariables false
set_option linter.unusedSimpArgs false

theorem run_assert_map (w : World) (t xT k e : TypeId) (v : Value) (h : Try.prog.underlying t = some (.map k e)) : (Instr.typeAssert (.iface t v) xT t false).run Try.prog w = .ok v w := by
  simp [Instr.typeAssert, run_underlying h, go_sem, Result.andThen]
theorem run_mapsClone (w : World) {r : Nat} {es : Array MapEntry} {clock : Nat} (t : TypeId) (hb : w.heap[r]? = some (.map es clock)) :
    (Extern.MapsClone.clone #[.iface t (.map (some r))]).run Try.prog w = .ok (.iface t (.map (some w.heap.size))) (w.alloc (.map es clock)) := by
  have e : Extern.MapsClone.clone #[.iface t (.map (some r))] = (getObj r >>= fun o => match o with
      | .map entries clock => (newObj (.map entries clock) >>= fun n => pure (.iface t (.map (some n))))
      | _ => stuck "maps.clone: a map expected") := rfl
  rw [e]
  simp [MapKept.run_getObj_map hb, Result.andThen, go_sem]
set_option maxRecDepth 20000 in
set_option maxHeartbeats 1000000 in
theorem mapClone_at (w : World) (b : Nat) (es : Array MapEntry) (clock : Nat) (hb : w.heap[b]? = some (.map es clock)) :
    Calls Try.prog 41 #[.map (some b)] w fun e w' => e = .returned (.map (some w.heap.size)) ∧ w' = w.alloc (.map es clock) := by
  have hq := run_eql_map_nil (P := Try.prog) w 59 _ _ (some b) Try.underlying59
  go_enter Try.func41, Try.ntmps41
  go_wp2
  rw [run_callFunc_extern Try.func51 (by kernel_rfl) (by kernel_rfl) (by kernel_rfl) (e := Extern.MapsClone.clone) (by kernel_rfl), run_mapsClone w 59 hb]
  simp only [Result.andThen]
  rw [Oper.upon_value]
  go_wp2
  rw [run_assert_map _ 59 20 _ _ _ Try.underlying59]
  simp only [Result.andThen]
  rw [Oper.upon_value]
  go_wp2
  go_ret
  exact ⟨rfl, rfl⟩

theorem cells68z : (Value.agg Z256.toArray).cells.size = 256 := by simp [Value.cells, Z256_length]
theorem run_sliceIsNil (w : World) (t e : TypeId) (a : Option Addr) (n c : Nat) (h : Try.prog.underlying t = some (.slice e)) :
    (binOp .eql t (.slice a n c) (.slice none 0 0)).run Try.prog w = .ok (.bool a.isNone) w := by
  have h1 : ∀ d, (Op.equalIn (d + 1) t (.slice a n c) (.slice none 0 0)).run Try.prog w = .ok a.isNone w := by
    intro d
    cases a <;> simp [Op.equalIn, run_underlying h]
  simp only [binOp]
  simp [Op.equal, Op.maxDepth, h1 9999]
set_option maxRecDepth 20000 in
set_option maxHeartbeats 1000000 in
theorem clonePages_at {w : World} {S n c : Nat} {cs : List Value} (hb : Blk w S cs 68) (hn : 0 < n) (hn2 : n ≤ 2048) (hl : n * 256 ≤ cs.length) (h1 : ∀ u ∈ cs.take (n * 256), u.oneCell' = true) :
    Calls Try.prog 39 #[.slice (some ⟨S, 0, none⟩) n c] w fun e w' => ∃ v, e = .returned v ∧ w'.ownsRow 0 68 256 v n (cs.take (n * 256)) ∧ (∀ k, v.ownBlock = some k → w.heap.size ≤ k) ∧ Old w w' := by
  have hq := run_sliceIsNil w 57 _ (some ⟨S, 0, none⟩) n c Try.underlying57
  have hrg : Hd ((w.alloc (.cells #[] 68)).rangeAt S 0 (cs.take (n * 256))) := ⟨by
    have := (hb.alloc (.cells #[] 68)).range 0 (n * 256)
    rw [List.drop_zero] at this
    exact this⟩
  have Hlen : Hd ((cs.take (n * 256)).length = n * 256) := ⟨by rw [List.length_take]; omega⟩
  have H1 := Hd.mk h1
  have Hn := Hd.mk hn
  have Hn2 := Hd.mk hn2
  have hown : Hd ((w.alloc (.cells #[] 68)).ownsRow 0 68 256 (.slice (some ⟨w.heap.size, 0, none⟩) 0 0) 0 []) := ⟨⟨rfl, .inr ⟨w.heap.size, 0, #[], rfl, Nat.zero_le _, _root_.Go.heap_alloc_new w _, Nat.le_refl _, Nat.zero_le _, rfl, rfl⟩⟩⟩
  have h63 : Hd (0 + n ≤ maxLen) := ⟨by simp only [maxLen]; omega⟩
  have hbt : Hd ((0 + n) * 256 ≤ 140737488355328) := ⟨by omega⟩
  clear hb hn hn2 hl h1
  go_enter Try.func39, Try.ntmps39
  go_wp2_with (first
    | ((with_reducible refine wl_append rfl _ _ 57 rfl 68 256 256 Try.underlying57 info68z cells68z (by omega) _ 0 [] rfl ?_ S 0 n c (cs.take (n * 256)) rfl Hlen.out hrg.out H1.out h63.out hbt.out Hn.out ?_); exact hown.out; intro v9 w9 h91 h92 h93; have H91 := Hd.mk h91; have H92 := Hd.mk h92; have H93 := Hd.mk h93; clear h91 h92 h93))
  go_ret
  refine ⟨_, rfl, by have := H91.out; rw [Nat.zero_add, List.nil_append] at this; exact this, fun k hk => ?_, ?_⟩
  · rcases H93.out k hk with h | h
    · have h : some w.heap.size = some k := h
      injection h with h; omega
    · simp at h; omega
  · exact ((Kp.refl (fun _ => False) w).alloc _).andThen H92.out (fun i hi h => by have h : some w.heap.size = some i := h; injection h with h; omega)
theorem cells70z : (Value.agg Z257.toArray).cells.size = 257 := by simp [Value.cells, Z257_length]
set_option maxRecDepth 20000 in
set_option maxHeartbeats 1000000 in
theorem cloneWaits_at {w : World} {S n c : Nat} {cs : List Value} (hb : Blk w S cs 70) (hn : 0 < n) (hn2 : n ≤ 1073741824) (hl : n * 257 ≤ cs.length) (h1 : ∀ u ∈ cs.take (n * 257), u.oneCell' = true) :
    Calls Try.prog 40 #[.slice (some ⟨S, 0, none⟩) n c] w fun e w' => ∃ v, e = .returned v ∧ w'.ownsRow 0 70 257 v n (cs.take (n * 257)) ∧ (∀ k, v.ownBlock = some k → w.heap.size ≤ k) ∧ Old w w' := by
  have hq := run_sliceIsNil w 58 _ (some ⟨S, 0, none⟩) n c Try.underlying58
  have hrg : Hd ((w.alloc (.cells #[] 70)).rangeAt S 0 (cs.take (n * 257))) := ⟨by
    have := (hb.alloc (.cells #[] 70)).range 0 (n * 257)
    rw [List.drop_zero] at this
    exact this⟩
  have Hlen : Hd ((cs.take (n * 257)).length = n * 257) := ⟨by rw [List.length_take]; omega⟩
  have H1 := Hd.mk h1
  have Hn := Hd.mk hn
  have Hn2 := Hd.mk hn2
  have hown : Hd ((w.alloc (.cells #[] 70)).ownsRow 0 70 257 (.slice (some ⟨w.heap.size, 0, none⟩) 0 0) 0 []) := ⟨⟨rfl, .inr ⟨w.heap.size, 0, #[], rfl, Nat.zero_le _, _root_.Go.heap_alloc_new w _, Nat.le_refl _, Nat.zero_le _, rfl, rfl⟩⟩⟩
  have h63 : Hd (0 + n ≤ maxLen) := ⟨by simp only [maxLen]; omega⟩
  have hbt : Hd ((0 + n) * 264 ≤ 140737488355328) := ⟨by omega⟩
  clear hb hn hn2 hl h1
  go_enter Try.func40, Try.ntmps40
  go_wp2_with (first
    | ((with_reducible refine wl_append rfl _ _ 58 rfl 70 257 264 Try.underlying58 info70z cells70z (by omega) _ 0 [] rfl ?_ S 0 n c (cs.take (n * 257)) rfl Hlen.out hrg.out H1.out h63.out hbt.out Hn.out ?_); exact hown.out; intro v9 w9 h91 h92 h93; have H91 := Hd.mk h91; have H92 := Hd.mk h92; have H93 := Hd.mk h93; clear h91 h92 h93))
  go_ret
  refine ⟨_, rfl, by have := H91.out; rw [Nat.zero_add, List.nil_append] at this; exact this, fun k hk => ?_, ?_⟩
  · rcases H93.out k hk with h | h
    · have h : some w.heap.size = some k := h
      injection h with h; omega
    · simp at h; omega
  · exact ((Kp.refl (fun _ => False) w).alloc _).andThen H92.out (fun i hi h => by have h : some w.heap.size = some i := h; injection h with h; omega)
set_option maxHeartbeats 1000000 in
theorem cloneWaits_nil (w : World) : Calls Try.prog 40 #[.slice none 0 0] w fun e w' => e = .returned (.slice none 0 0) ∧ w = w' := by
  have hq := run_sliceIsNil w 58 _ none 0 0 Try.underlying58
  go_enter Try.func40, Try.ntmps40
  go_wp2_with fail
  go_ret
  exact ⟨rfl, rfl⟩
set_option maxRecDepth 20000 in
set_option maxHeartbeats 1000000 in
theorem cloneWaits_zero (w : World) (S c : Nat) : Calls Try.prog 40 #[.slice (some ⟨S, 0, none⟩) 0 c] w fun e w' => e = .returned (.slice (some ⟨w.heap.size, 0, none⟩) 0 0) ∧ w'.heap[w.heap.size]? = some (.cells #[] 70 (0, 0)) ∧ Old w w' := by
  have hq := run_sliceIsNil w 58 _ (some ⟨S, 0, none⟩) 0 c Try.underlying58
  go_enter Try.func40, Try.ntmps40
  go_wp2_with fail
  go_ret
  exact ⟨rfl, _root_.Go.heap_alloc_new w _, (Kp.refl (fun _ => False) w).alloc _⟩
end Go.Proofs.Ytkcechpaeilaeaa
