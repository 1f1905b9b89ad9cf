/- Plain law of DiskStays: a page that no write that waits has is behind a crash as it was stable. -/
import Derived.Test.YtkcechpaeilaeaaL7
namespace Go.Proofs.Ytkcechpaeilaeaa
open Go.RowKit
set_option linter.unusedVariables false
set_option linter.unusedSimpArgs false

theorem crash_keeps (st : List (List Int)) (ws : List (Nat × List Int)) (pick : List Int) (p : Nat) (k : Nat) (hk : k ≤ ws.length) (h : ∀ x ∈ ws, x.1 ≠ p) : (crashUpto st ws pick k)[p]? = st[p]? := by
  induction k with
  | zero => rfl
  | succ k ih =>
    have hx := h _ (List.getElem_mem (show k < ws.length from hk))
    simp only [crashUpto]
    rw [getD_at _ _ _ (show k < ws.length from hk), List.getElem?_set_ne hx, ih (by omega)]
/-- Does an act write page p? -/
def hitB (p : Nat) (x : OpM) : Bool := !(x.act == 2) && (x.p == (p : Int))
def behindStep (M : DM) (x : OpM) : DM := if x.act = 2 then M else if 0 ≤ x.p ∧ x.p < 9 then writeM M x.p.toNat (pageOf x.b) else M
def behindM (M : DM) (l : List OpM) : DM := l.foldl behindStep M
def boolsM (l : List OpM) : List Value := (List.range 9).map fun p => Value.bool (l.any (hitB p))
theorem behindM_take {M : DM} {l : List OpM} {k : Nat} (h : k < l.length) : behindM M (l.take (k + 1)) = behindStep (behindM M (l.take k)) l[k] := by
  unfold behindM
  rw [List.take_succ_eq_append_getElem h, List.foldl_append]
  rfl
theorem Calm.bstep {M : DM} {K : Nat} (h : Calm M 9 K) (x : OpM) : Calm (behindStep M x) 9 (K + 1) := by
  unfold behindStep
  split
  · exact h.mono (by omega)
  · split
    · exact h.write _ _
    · exact h.mono (by omega)
theorem Calm.behind {M : DM} {K : Nat} (h : Calm M 9 K) (l : List OpM) : Calm (behindM M l) 9 (K + l.length) := by
  induction l generalizing M K with
  | nil => exact h
  | cons x r ih => exact (ih (h.bstep x)).mono (by simp; omega)
theorem boolsM_length (l : List OpM) : (boolsM l).length = 9 := by simp [boolsM]
theorem boolsM_get (l : List OpM) (p : Nat) (hp : p < 9) : (boolsM l)[p]? = some (.bool (l.any (hitB p))) := by
  simp only [boolsM, List.getElem?_map, List.getElem?_range hp, Option.map_some]
theorem boolsM_same {l : List OpM} {k : Nat} (h : k < l.length) (hno : ∀ p, p < 9 → hitB p l[k] = false) : boolsM (l.take (k + 1)) = boolsM (l.take k) := by
  unfold boolsM
  apply List.map_congr_left
  intro p hp
  rw [List.take_succ_eq_append_getElem h, List.any_append]
  simp [hno p (List.mem_range.1 hp)]
theorem boolsM_set {l : List OpM} {k p : Nat} (h : k < l.length) (hp : p < 9) (ha : l[k].act ≠ 2) (hpp : l[k].p = p) : boolsM (l.take (k + 1)) = (boolsM (l.take k)).set p (.bool true) := by
  apply List.ext_getElem?
  intro i
  rcases Nat.lt_or_ge i 9 with hi | hi
  · rw [boolsM_get _ _ hi, List.getElem?_set, boolsM_length, boolsM_get _ _ hi, List.take_succ_eq_append_getElem h, List.any_append]
    by_cases e : p = i
    · subst e
      rw [if_pos rfl, if_pos hp]
      have : hitB p l[k] = true := by unfold hitB; rw [hpp]; simp [ha]
      simp [this]
    · rw [if_neg e]
      have : hitB i l[k] = false := by
        unfold hitB; rw [hpp]
        have : ((p : Int) == (i : Int)) = false := by simp; omega
        rw [this, Bool.and_false]
      simp [this]
  · rw [List.getElem?_eq_none (by rw [boolsM_length]; omega), List.getElem?_eq_none (by rw [List.length_set, boolsM_length]; omega)]
theorem behind_st {M : DM} {K : Nat} (h : Calm M 9 K) (l : List OpM) : (behindM M l).st = M.st := by
  induction l generalizing M K with
  | nil => rfl
  | cons x r ih =>
    refine (ih (h.bstep x)).trans ?_
    unfold behindStep
    split
    · rfl
    · split
      · rw [h.writeM_eq]
      · rfl
theorem behind_ws {M : DM} {K : Nat} (h : Calm M 9 K) (p : Nat) (hw : ∀ x ∈ M.ws, x.1 ≠ p) (l : List OpM) (hl : l.any (hitB p) = false) : ∀ x ∈ (behindM M l).ws, x.1 ≠ p := by
  induction l generalizing M K with
  | nil => exact hw
  | cons x r ih =>
    simp only [List.any_cons, Bool.or_eq_false_iff] at hl
    refine ih (h.bstep x) ?_ hl.2
    unfold behindStep
    split
    · exact hw
    · rename_i ha
      split
      · rename_i hp
        rw [h.writeM_eq]
        intro y hy
        simp only [List.mem_append, List.mem_singleton] at hy
        rcases hy with hy | rfl
        · exact hw y hy
        · intro e
          have h1 := hl.1
          unfold hitB at h1
          simp [ha] at h1
          simp only at e
          omega
      · exact hw
/-- What a page shows when nothing waits. -/
theorem shown_still {M : DM} (h : M.ws = []) (p : Nat) : shownM M p = M.st.getD p [] := by
  unfold shownM
  rw [h]
  rfl
theorem stays_law {M : DM} {K : Nat} (h : Calm M 9 K) (hw : M.ws = []) (l : List OpM) (pick : List Int) (p : Nat) (hl : l.any (hitB p) = false) : shownM (crashM (behindM M l) pick) p = shownM M p := by
  rw [shown_still hw, shown_still rfl]
  show (crashUpto (behindM M l).st (behindM M l).ws pick (behindM M l).ws.length).getD p [] = _
  have := crash_keeps (behindM M l).st (behindM M l).ws pick p _ (Nat.le_refl _) (behind_ws h p (by rw [hw]; simp) l hl)
  simp only [List.getD]; rw [this, behind_st h]
theorem crash_still_ws (M : DM) (pick : List Int) : (crashM M pick).ws = [] := rfl
end Go.Proofs.Ytkcechpaeilaeaa
