/- The law's own small functions: Page. -/
import Derived.Test.YtkcechpaeilaeaaD3
namespace Go.Proofs.Ytkcechpaeilaeaa
open Go.RowKit
set_option linter.unusedVariables false

def pageUpto (l : List Int) (k : Nat) : List Int := (List.range 256).map fun i => if i < k then l.getD (i / 64) 0 else 0
/-- A page, of a few. -/
def pageOf (l : List Int) : List Int := pageUpto l 256
theorem pageUpto_length (l : List Int) (k : Nat) : (pageUpto l k).length = 256 := by simp [pageUpto]
theorem pageUpto_get (l : List Int) (k i : Nat) (h : i < 256) : (pageUpto l k)[i]? = some (if i < k then l.getD (i / 64) 0 else 0) := by
  simp only [pageUpto, List.getElem?_map, List.getElem?_range h, Option.map_some]
theorem pageUpto_zero (l : List Int) : u8s (pageUpto l 0) = List.replicate 256 (.int .u8 0) := by
  apply List.ext_getElem?
  intro i
  rw [u8s_get]
  rcases Nat.lt_or_ge i 256 with h | h
  · rw [pageUpto_get l 0 i h, List.getElem?_replicate, if_pos h]; simp
  · rw [List.getElem?_eq_none (by rw [pageUpto_length]; omega), List.getElem?_eq_none (by rw [List.length_replicate]; omega)]; rfl
theorem pageUpto_set (l : List Int) (k : Nat) (hk : k < 256) (h : k / 64 < l.length) : u8s (pageUpto l (k + 1)) = (u8s (pageUpto l k)).set k (.int .u8 (l[k / 64])) := by
  apply List.ext_getElem?
  intro i
  rcases Nat.lt_or_ge i 256 with hi | hi
  · rw [u8s_get, pageUpto_get l (k + 1) i hi, List.getElem?_set]
    by_cases e : k = i
    · subst e
      rw [if_pos rfl, if_pos (show k < (u8s (pageUpto l k)).length by rw [u8s_length, pageUpto_length]; omega), if_pos (by omega), getD_at _ _ _ h]; rfl
    · rw [if_neg e, u8s_get, pageUpto_get l k i hi]
      by_cases c : i < k
      · rw [if_pos c, if_pos (by omega)]
      · rw [if_neg c, if_neg (by omega)]
  · rw [List.getElem?_eq_none (by simp [pageUpto_length]; omega), List.getElem?_eq_none (by simp [pageUpto_length]; omega)]
theorem pageUpto_skip (l : List Int) (k : Nat) (h : ¬ k / 64 < l.length) : pageUpto l (k + 1) = pageUpto l k := by
  apply List.ext_getElem?
  intro i
  rcases Nat.lt_or_ge i 256 with hi | hi
  · rw [pageUpto_get _ _ _ hi, pageUpto_get _ _ _ hi]
    by_cases e : i = k
    · subst e
      rw [if_pos (by omega), if_neg (by omega)]
      simp [List.getD, List.getElem?_eq_none (by omega : l.length ≤ i / 64)]
    · by_cases c : i < k
      · rw [if_pos c, if_pos (by omega)]
      · rw [if_neg c, if_neg (by omega)]
  · rw [List.getElem?_eq_none (by rw [pageUpto_length]; omega), List.getElem?_eq_none (by rw [pageUpto_length]; omega)]

theorem info5z : (Try.prog.info? 5).map (fun i => (i.zero, i.size, i.bytes)) = some (some (.int .u8 0), 1, 1) := by kernel_rfl
theorem madeCells_one (z : Value) (n : Nat) : madeCells #[z] n = (List.replicate n z).toArray := by
  apply Array.ext'
  apply List.ext_getElem?
  intro i
  simp only [madeCells, Array.toList_map, Array.toList_range, List.getElem?_map, List.getElem?_replicate]
  rcases Nat.lt_or_ge i n with h | h
  · rw [List.getElem?_range h, if_pos h]; simp [Nat.mod_one]
  · rw [List.getElem?_eq_none (by simpa using h), if_neg (by omega)]; rfl
/-- make of so many bytes. -/
theorem run_make_bytes (w : World) (n : Nat) (hn : n ≤ 281474976710656) : (Instr.makeSlice 23 (.int .i64 n) (.int .i64 n)).run Try.prog w = .ok (.slice (some ⟨w.heap.size, 0, none⟩) n n) (w.alloc (.cells (List.replicate n (.int .u8 0)).toArray 5)) := by
  obtain ⟨i0, hi, hz0, hz1, hz2⟩ := info_parts info5z
  have := run_make (P := Try.prog) w 23 5 i0 (.int .u8 0) Try.underlying23 hi hz0 .i64 .i64 n n (by omega) (Int.le_refl _) (by rw [hz2]; omega) (by omega)
  rw [hz1, Nat.mul_one, Int.toNat_natCast] at this
  rw [this]
  simp only [Value.cells, madeCells_one]

set_option maxHeartbeats 400000 in
theorem page_at {w : World} {v : Value} {l : List Int} (h : Bs w v l) : Calls Try.prog 11 #[v] w fun e w' =>
    e = .returned (.slice (some ⟨w.heap.size, 0, none⟩) 256 256) ∧ Blk w' w.heap.size (u8s (pageOf l)) 5 ∧ Kp (fun _ => False) w w' ∧ w'.heap.size = w.heap.size + 1 := by
  obtain ⟨A, c, rfl, hc, hr⟩ := h
  have hmk : (Instr.makeSlice 23 (.int .i64 256) (.int .i64 256)).run Try.prog w = .ok (.slice (some ⟨w.heap.size, 0, none⟩) 256 256) (w.alloc (.cells (u8s (pageUpto l 0)).toArray 5)) := by
    rw [pageUpto_zero]; exact run_make_bytes w 256 (by omega)
  go_enter Try.func11, Try.ntmps11
  go_wp2_with fail
  go_loopw [9] (fun v9 wr => ∃ k : Nat, k ≤ 256 ∧ v9 = .int .i64 k ∧ Blk wr w.heap.size (u8s (pageUpto l k)) 5 ∧ Kp (fun _ => False) w wr ∧ wr.heap.size = w.heap.size + 1) (fun v9 _ => 256 - (intOf v9).toNat)
  case atStart => exact ⟨0, by omega, rfl, Blk.new _ _ _, (Kp.refl _ _).alloc _, by simp⟩
  case round =>
    obtain ⟨k, hk, rfl, hb, hkp, hsz⟩ := hrel
    by_cases hlt : k < 256
    · have hB : w.heap.size < wr.heap.size := by omega
      by_cases hin : k / 64 < l.length
      · rcases hr with rfl | ⟨b, o, rfl, hr⟩
        · simp at hin
        have hb0 : b < w.heap.size := rangeAt_lt hr (by intro e; have := congrArg List.length e; simp at this; subst this; simp at hin)
        have hcell : wr.cell? ⟨b, o + k / 64, none⟩ = some (.int .u8 l[k / 64]) :=
          rangeAt_keep hr (hkp.block b hb0 id) _ _ (by rw [u8s_get, List.getElem?_eq_getElem hin]; rfl)
        have hold : wr.cell? ⟨w.heap.size, k, none⟩ = some (.int .u8 ((pageUpto l k)[k]'(by rw [pageUpto_length]; omega))) := by
          rw [hb.cell, u8s_get, List.getElem?_eq_getElem (by rw [pageUpto_length]; omega)]; rfl
        have hfr := hb.free k
        have hq : ((k : Int) / 64) < (l.length : Int) := by omega
        have hset := pageUpto_set l k hlt hin
        have hnew := Hd.mk (hb.set k (.int .u8 l[k / 64]))
        rw [← hset] at hnew
        have hkp' := Hd.mk (hkp.setCell ⟨w.heap.size, k, none⟩ (.int .u8 l[k / 64]) (.inl (Nat.le_refl _)))
        clear hset hb hkp
        generalize l[k / 64] = x at *
        generalize (pageUpto l k)[k]'(by rw [pageUpto_length]; omega) = y at *
        have Hsz := Hd.mk hsz
        have hlt' : (k : Int) < 256 := by omega
        have Hlt := Hd.mk hlt
        clear hmk hsz hr hk hlt
        go_wp2
        exact ⟨⟨k + 1, by omega, by go_num, hnew.out, hkp'.out, by simp [Hsz.out]⟩, by simp [intOf]; omega⟩
      · have hq : (l.length : Int) ≤ (k : Int) / 64 := by omega
        have hskip := pageUpto_skip l k hin
        have hnew := Hd.mk hb
        rw [← hskip] at hnew
        have Hkp := Hd.mk hkp
        have Hsz := Hd.mk hsz
        have hlt' : (k : Int) < 256 := by omega
        have hq' : decide ((k : Int) / 64 < (l.length : Int)) = false := by simpa using hq
        clear hmk hsz hr hk hlt hskip hb hkp hin
        go_wp2
        exact ⟨⟨k + 1, by omega, by go_num, hnew.out, Hkp.out, Hsz.out⟩, by simp [intOf]; omega⟩
    · have e : k = 256 := by omega
      subst e
      have Hb := Hd.mk hb
      have Hkp := Hd.mk hkp
      have Hsz := Hd.mk hsz
      clear hmk hsz hr hk hlt hb hkp
      go_wp2
      go_ret
      exact ⟨rfl, Hb.out, Hkp.out, Hsz.out⟩
end Go.Proofs.Ytkcechpaeilaeaa
