/- New. -/
import Derived.Test.YtkcechpaeilaeaaD9
namespace Go.Proofs.Ytkcechpaeilaeaa
open Go.RowKit
set_option linter.unusedVariables false
set_option linter.unusedSimpArgs false

/-- A page of noughts. -/
def zpage : List Int := List.replicate 256 0
def newM (n : Nat) : DM := { st := List.replicate n zpage, ws := [], off := false, armed := false, left := 0, ops := 0 }
theorem newM_ok (n : Nat) (h0 : 0 < n) (h1 : n ≤ 2048) : (newM n).Ok where
  pos := by simpa [newM] using h0
  most := by simpa [newM] using h1
  st := fun b hb => by rw [List.eq_of_mem_replicate hb]; exact List.length_replicate
  ws := fun x hx => by simp [newM] at hx
  few := Nat.zero_le _
  left0 := Int.le_refl _
  left1 := by simp [newM]
  ops0 := Int.le_refl _
  ops1 := by simp [newM]
theorem u8s_zpage : u8s zpage = List.replicate 256 (.int .u8 0) := by unfold u8s zpage; rw [List.map_replicate]
theorem newM_cells (n : Nat) : scells (newM n).st = List.replicate (n * 256) (.int .u8 0) := by
  show (List.replicate n zpage).flatMap u8s = _
  induction n with
  | zero => rfl
  | succ n ih => 
    rw [List.replicate_succ, List.flatMap_cons, ih, u8s_zpage, List.replicate_append_replicate, Nat.succ_mul, Nat.add_comm]
theorem madeCells_same (z : Value) (k n : Nat) (hk : 0 < k) : madeCells (List.replicate k z).toArray n = (List.replicate n z).toArray := by
  apply Array.ext'
  apply List.ext_getElem?
  intro i
  simp only [madeCells, Array.toList_map, Array.toList_range, List.getElem?_map, List.getElem?_replicate]
  rcases Nat.lt_or_ge i n with h | h
  · have := Nat.mod_lt i hk
    rw [List.getElem?_range h, if_pos h]; simp [this]
  · rw [List.getElem?_eq_none (by simpa using h), if_neg (by omega)]; rfl
theorem info68z : (Try.prog.info? 68).map (fun i => (i.zero, i.size, i.bytes)) = some (some (.agg Z256.toArray), 256, 256) := by kernel_rfl
/-- make of so many pages. -/
theorem run_make_pages (w : World) (n : Nat) (hn : n ≤ 2048) : (Instr.makeSlice 57 (.int .i64 n) (.int .i64 n)).run Try.prog w = .ok (.slice (some ⟨w.heap.size, 0, none⟩) n n) (w.alloc (.cells (scells (newM n).st).toArray 68)) := by
  obtain ⟨i0, hi, hz0, hz1, hz2⟩ := info_parts info68z
  have := run_make (P := Try.prog) w 57 68 i0 (.agg Z256.toArray) Try.underlying57 hi hz0 .i64 .i64 n n (by omega) (Int.le_refl _) (by rw [hz2]; omega) (by omega)
  rw [hz1, Int.toNat_natCast] at this
  rw [this]
  simp only [Value.cells, Z256]
  rw [madeCells_same _ _ _ (by omega), newM_cells]

theorem new_no (w : World) (n : Int) (h : n < 8 ∨ 2048 < n) : Calls Try.prog 9 #[.int .i64 n] w fun e w' => e = .returned (.tuple #[.pointer none, .int .i64 1]) ∧ w = w' := by
  have h' : (decide (n < 8) || decide (2048 < n)) = true := by simpa using h
  go_enter Try.func9, Try.ntmps9
  go_wp2_with fail
  all_goals (go_ret2; exact ⟨rfl, rfl⟩)
def Z7 : List Value := [.slice none 0 0, .slice none 0 0, .map none, .bool false, .bool false, .int .i64 0, .int .i64 0]
theorem zero61 (w : World) : (zeroValue 61).run Try.prog w = .ok (.agg Z7.toArray) w := by kernel_rfl
theorem places61 (w : World) : ((#[⟨ "stable", 57, 0, false, "", "incipit/disk", 0⟩, ⟨ "waits", 58, 1, false, "", "incipit/disk", 24⟩, ⟨ "shows", 59, 2, false, "", "incipit/disk", 48⟩, ⟨ "off", 4, 3, false, "", "incipit/disk", 56⟩, ⟨ "armed", 4, 4, false, "", "incipit/disk", 57⟩, ⟨ "left", 3, 5, false, "", "incipit/disk", 64⟩, ⟨ "ops", 3, 6, false, "", "incipit/disk", 72⟩] : Array Field).mapM (m := Sem) fun (f : Field) => do pure (f.offset, ← sizeOf f.type)).run Try.prog w = .ok #[(0, 1), (1, 1), (2, 1), (3, 1), (4, 1), (5, 1), (6, 1)] w := by kernel_rfl
theorem fill61 (v m : Value) (hv : v.cells = #[v]) (hm : m.cells = #[m]) : Instr.fill (#[(0, 1), (1, 1), (2, 1), (3, 1), (4, 1), (5, 1), (6, 1)][·]?) Z7.toArray [(0, v), (2, m)] = some [v, .slice none 0 0, m, .bool false, .bool false, .int .i64 0, .int .i64 0].toArray := by
  have e1 := fill_step (#[(0, 1), (1, 1), (2, 1), (3, 1), (4, 1), (5, 1), (6, 1)][·]?) Z7 [v] 0 0 v hv [(2, m)] rfl (by simp [Z7])
  rw [e1]
  have e2 := fill_step (#[(0, 1), (1, 1), (2, 1), (3, 1), (4, 1), (5, 1), (6, 1)][·]?) (splice Z7 0 [v]) [m] 2 2 m hm [] rfl (by simp [Z7, splice])
  rw [e2, Instr.fill]
  rfl
theorem new_yes (w : World) (n : Nat) (h0 : 8 ≤ n) (h1 : n ≤ 2048) : Calls Try.prog 9 #[.int .i64 n] w fun e w' =>
    ∃ d, e = .returned (.tuple #[.pointer (some ⟨d, 0, none⟩), .int .i64 0]) ∧ DiskAt w' d (newM n) (fun k => w.heap.size ≤ k ∧ k < w'.heap.size) ∧ Kp (fun _ => False) w w' := by
  have H0 := Hd.mk h0
  have H1 := Hd.mk h1
  have i0 : decide ((n : Int) < 8) = false := by simp; omega
  have i1 : decide ((n : Int) > 2048) = false := by simp; omega
  have i2 : 8 ≤ (n : Int) := by omega
  have i3 : (n : Int) ≤ 2048 := by omega
  have hmk := run_make_pages w n h1
  have hmk := Hd.mk hmk
  clear h0 h1
  go_enter Try.func9, Try.ntmps9
  go_wp2_with (first
    | (with_reducible refine wl_run rfl (ex_makeMap _ 59 rfl) ?_)
    | (with_reducible refine wl_run rfl (ex_build _ 61 [(0, .tmp 11), (2, .tmp 12)] rfl Try.underlying61 Z7 (zero61 _) _ (places61 _) [(0, .slice (some ⟨w.heap.size, 0, none⟩) n n), (2, .map (some (w.heap.size + 1)))] rfl _ (fill61 _ _ rfl rfl)) ?_)
    | (with_reducible refine wl_run rfl (ex_box _ 61 _ rfl _ rfl) ?_))
  go_ret2
  refine ⟨w.heap.size + 1 + 1, rfl, ⟨newM_ok n (by have := H0.out; omega) H1.out, w.heap.size, n, w.heap.size + 1, .slice none 0 0, [], [], ?_⟩, (((Kp.refl _ _).alloc _).alloc _).alloc _⟩
  have e0 : (newM n).st.length = n := by simp [newM]
  have b1 := ((Blk.new w (scells (newM n).st) 68).alloc (.map #[] 0)).alloc (.cells [.slice (some ⟨w.heap.size, 0, none⟩) n n, .slice none 0 0, .map (some (w.heap.size + 1)), .bool false, .bool false, .int .i64 0, .int .i64 0].toArray 61)
  have b2 := Blk.new ((w.alloc (.cells (scells (newM n).st).toArray 68)).alloc (.map #[] 0)) [.slice (some ⟨w.heap.size, 0, none⟩) n n, .slice none 0 0, .map (some (w.heap.size + 1)), .bool false, .bool false, .int .i64 0, .int .i64 0] 61
  have b3 := (IMap.made (w.alloc (.cells (scells (newM n).st).toArray 68))).keep (_root_.Go.heap_alloc_old _ (.cells [.slice (some ⟨w.heap.size, 0, none⟩) n n, .slice none 0 0, .map (some (w.heap.size + 1)), .bool false, .bool false, .int .i64 0, .int .i64 0].toArray 61) (by simp))
  have hs : ((w.alloc (.cells (scells (newM n).st).toArray 68)).alloc (.map #[] 0)).heap.size = w.heap.size + 1 + 1 := by simp
  have hs1 : (w.alloc (.cells (scells (newM n).st).toArray 68)).heap.size = w.heap.size + 1 := by simp
  rw [hs] at b2
  rw [hs1] at b3
  exact
    { blk := by rw [e0]; exact b2
      stb := by rw [List.append_nil]; exact b1
      cap := by rw [e0]; exact Nat.le_refl _
      map := b3
      shows := fun k => by simp [mget_nil, showsAt, newM, lastI]
      waits := ⟨by simp [newM, wcells], .inl ⟨rfl, rfl⟩⟩
      fd := ⟨by omega, by simp⟩
      fS := ⟨by omega, by simp; omega⟩
      fm := ⟨by omega, by simp⟩
      fw := fun k hk => by simp [Value.ownBlock] at hk
      lt := fun k hk => hk.2 }
end Go.Proofs.Ytkcechpaeilaeaa
