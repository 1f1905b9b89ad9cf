/- Plain law: a crash by which all comes about whole leaves what the pages show; one by which nothing does leaves what was stable. -/
import Derived.Test.YtkcechpaeilaeaaD8
namespace Go.Proofs.Ytkcechpaeilaeaa
open Go.RowKit
set_option linter.unusedVariables false
set_option linter.unusedSimpArgs false

theorem many_four (n k : Nat) (h : k < n) : many (List.replicate n 4) k = 256 := by
  unfold many
  rw [if_pos (by simpa using h)]
  simp [List.getD, List.getElem?_replicate, h]
theorem many_none (k : Nat) : many [] k = 0 := by simp [many]
theorem crash_none (st : List (List Int)) (ws : List (Nat × List Int)) (k : Nat) (hk : k ≤ ws.length) (h : ∀ x ∈ ws, x.1 < st.length) : crashUpto st ws [] k = st := by
  induction k with
  | zero => rfl
  | succ k ih =>
    have hx := h _ (List.getElem_mem (show k < ws.length from hk))
    simp only [crashUpto, ih (by omega), many_none, List.take_zero, List.nil_append, List.drop_zero]
    rw [getD_at _ _ _ (show k < ws.length from hk), getD_at _ _ _ hx]
    exact List.set_getElem_self hx
theorem shown_take (M : DM) (k : Nat) (hk : k < M.ws.length) (p : Nat) : shownM { M with ws := M.ws.take (k + 1) } p = if (M.ws[k]).1 = p then (M.ws[k]).2 else shownM { M with ws := M.ws.take k } p := by
  have hl : (M.ws.take k).length = k := by rw [List.length_take]; omega
  have e : M.ws.take (k + 1) = M.ws.take k ++ [((M.ws[k]).1, (M.ws[k]).2)] := List.take_succ_eq_append_getElem hk
  simp only [shownM]
  rw [e, lastI_append, hl]
  by_cases h : (M.ws[k]).1 = p
  · rw [if_pos h, if_pos h]
    simp only [List.getD, List.getElem?_append_right (show (M.ws.take k).length ≤ k by omega), hl, Nat.sub_self]
    rfl
  · rw [if_neg h, if_neg h]
    cases hc : lastI p (M.ws.take k) with
    | none => rfl
    | some i =>
      obtain ⟨hi, _⟩ := lastI_spec hc
      simp only [List.getD, List.getElem?_append_left hi]
theorem crash_upto (M : DM) (hok : M.Ok) (k : Nat) (hk : k ≤ M.ws.length) : crashUpto M.st M.ws (List.replicate M.ws.length 4) k = (List.range M.st.length).map fun p => shownM { M with ws := M.ws.take k } p := by
  induction k with
  | zero =>
    apply List.ext_getElem?
    intro p
    simp only [crashUpto, List.take_zero, List.getElem?_map]
    rcases Nat.lt_or_ge p M.st.length with hp | hp
    · rw [List.getElem?_range hp]
      simp only [Option.map_some, shownM, lastI]
      rw [getD_at _ _ _ hp, List.getElem?_eq_getElem hp]
    · rw [List.getElem?_eq_none hp, List.getElem?_eq_none (by simpa using hp)]; rfl
  | succ k ih =>
    have hk' : k < M.ws.length := hk
    have hx := hok.ws _ (List.getElem_mem hk')
    simp only [crashUpto, ih (by omega), many_four _ _ hk']
    rw [getD_at _ _ _ hk']
    apply List.ext_getElem?
    intro p
    rw [List.getElem?_set]
    have hdrop : (((List.range M.st.length).map fun p => shownM { M with ws := M.ws.take k } p).getD (M.ws[k]).1 []).drop 256 = [] := by
      rw [getD_at _ _ _ (by simpa using hx.1)]
      simp only [List.getElem_map, List.getElem_range]
      have hokk : DM.Ok { M with ws := M.ws.take k } := ⟨hok.pos, hok.most, hok.st, fun x hx => hok.ws x (List.mem_of_mem_take hx), by have := hok.few; show (M.ws.take k).length ≤ _; rw [List.length_take]; omega, hok.left0, hok.left1, hok.ops0, hok.ops1⟩
      exact List.drop_of_length_le (by rw [shownM_length hokk hx.1]; exact Nat.le_refl _)
    rw [hdrop, List.append_nil, List.take_of_length_le (show (M.ws[k]).2.length ≤ 256 by omega)]
    rcases Nat.lt_or_ge p M.st.length with hp | hp
    · simp only [List.getElem?_map, List.getElem?_range hp, Option.map_some, List.length_map, List.length_range]
      rw [shown_take M k hk' p]
      by_cases h : (M.ws[k]).1 = p
      · rw [if_pos h, if_pos h, if_pos (by omega)]
      · rw [if_neg h, if_neg h]
    · rw [if_neg (by have := hx.1; omega)]
      rw [List.getElem?_eq_none (by simpa using hp), List.getElem?_eq_none (by simpa using hp)]
theorem crash_whole (M : DM) (hok : M.Ok) : (crashM M (List.replicate M.ws.length 4)).st = shownAll M := by
  show crashUpto M.st M.ws (List.replicate M.ws.length 4) M.ws.length = _
  rw [crash_upto M hok _ (Nat.le_refl _), List.take_length]
  rfl
theorem crash_still (M : DM) (hok : M.Ok) : (crashM M []).st = M.st := crash_none M.st M.ws _ (Nat.le_refl _) (fun x hx => (hok.ws x hx).1)
end Go.Proofs.Ytkcechpaeilaeaa
