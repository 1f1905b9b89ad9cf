/- A region that draws its order, more: an operation is taken first also where what waits for it does so by way of others. -/
import Derived.Test.YtkcechpaeilaeaaGreatDoorReg
namespace Go.Proofs.YtkcechpaeilaeaaGreatDoor
open Go
variable {P : Program} {ops : Array Oper} {Q : Exit → Act → World → Prop} {md : Region.Mode} {S : World → Prop} {nd : List Nat}

theorem wpAnyN_firstT {i : Nat} {oi : Oper} {v : Value} (T : List Nat) (hi : ops[i]? = some oi) (hsel : ∀ (j : Nat) (o : Oper) cs b, ops[j]? = some o → o.op ≠ .select cs b)
    (hQ : ∀ c a w, Q (.panic c) (a.put oi.dst v) w → Q (.panic c) a w)
    (hT : ∀ j ∈ T, ∃ oj, ops[j]? = some oj ∧ ∃ e ∈ oj.after, Region.binds md e = true ∧ (e.on = i ∨ e.on ∈ T)) :
    ∀ (fuel : Nat) (listed : Array Bool) (a : Act) (w : World),
      (∀ j ∈ T, listed.getD j true = false) →
      (∀ j oj, ops[j]? = some oj → j ≠ i → listed.getD j true = false → (∀ e ∈ oj.after, Region.binds md e = true → e.on ≠ i) → oi.apart ops oj = true ∧ (nd.contains j = true ∨ j ∈ T)) →
      i ∈ Region.ready md ops listed → YieldsIf P ops S oi v a → S w →
      wpAnyN P md ops Q S nd fuel (listed.setIfInBounds i true) (a.put oi.dst v) w → wpAnyN P md ops Q S nd (fuel + 1) listed a w := by
  intro fuel
  induction fuel with
  | zero =>
    intro listed a w _ _ hr hy hS H
    refine ⟨fun h => (by rw [h] at hr; cases hr), fun j hj => ?_⟩
    by_cases hji : j = i
    · subst hji; exact hy.wpOp hi hS ⟨fun _ => hS, H⟩
    · have := ready_mono hj hji
      rw [H.1] at this
      cases this
  | succ fuel ih =>
    intro listed a w hTl hfree hr hy hS H
    refine ⟨fun h => (by rw [h] at hr; cases hr), fun j hj => ?_⟩
    by_cases hji : j = i
    · subst hji; exact hy.wpOp hi hS ⟨fun _ => hS, H⟩
    · have h1 := H.2 j (ready_mono hj hji)
      obtain ⟨hjun, oj, hoj, hall⟩ := mem_ready.1 hj
      have hsome : ∀ k : Nat, listed.getD k true = false → listed[k]? ≠ some true := fun k h0 h1 => by
        rcases Nat.lt_or_ge k listed.size with h' | h'
        · simp [h'] at h0 h1; rw [h0] at h1; cases h1
        · simp [Array.getElem?_eq_none h'] at h1
      have hnot : ∀ e ∈ oj.after, Region.binds md e = true → e.on ≠ i := fun e he hb heq => by
        have h1 := hall e he hb
        have h0 := (mem_ready.1 hr).1
        rw [heq] at h1
        rcases Nat.lt_or_ge i listed.size with h' | h'
        · simp [h'] at h0 h1; rw [h0] at h1; cases h1
        · simp [Array.getElem?_eq_none h'] at h1
      have hjT : j ∉ T := fun hm => by
        obtain ⟨oj', ho', e, he, hb, hon⟩ := hT j hm
        rw [hoj] at ho'
        injection ho' with ho'
        subst ho'
        have h1 := hall e he hb
        have h0 : listed.getD e.on true = false := by
          rcases hon with h | h
          · exact absurd h (hnot e he hb)
          · exact hTl _ h
        rcases Nat.lt_or_ge e.on listed.size with h' | h'
        · simp [h'] at h0 h1; rw [h0] at h1; cases h1
        · simp [Array.getElem?_eq_none h'] at h1
      have hf := hfree j oj hoj hji hjun hnot
      have hnd : nd.contains j = true := hf.2.resolve_right hjT
      have h2 := wpOp_putIf hoj hf.1 (fun cs b => hsel i oi cs b hi) (fun cs b => hsel j oj cs b hoj) hQ hy h1
      have hTl' : ∀ k ∈ T, (listed.setIfInBounds j true).getD k true = false := fun k hk => by
        have hjk : j ≠ k := fun e => hjT (by rw [e]; exact hk)
        rw [getD_set_ne true hjk]
        exact hTl k hk
      have hfree' : ∀ k ok, ops[k]? = some ok → k ≠ i → (listed.setIfInBounds j true).getD k true = false →
          (∀ e ∈ ok.after, Region.binds md e = true → e.on ≠ i) → oi.apart ops ok = true ∧ (nd.contains k = true ∨ k ∈ T) := fun k ok hk hki hun hno => by
        refine hfree k ok hk hki ?_ hno
        by_cases hjk : j = k
        · subst hjk; exact hjun
        · rw [getD_set_ne true hjk] at hun; exact hun
      refine wpOp_mono (fun a' w' h3 => ⟨h3.2.1, ?_⟩) h2
      refine ih (listed.setIfInBounds j true) a' w' hTl' hfree' (ready_mono hr (Ne.symm hji)) h3.1 (h3.2.1 hnd) ?_
      rw [Array.setIfInBounds_comm _ _ hji]
      exact h3.2.2

/-- Every other operation that is not listed waits for i, or is one of nd or of T; what is of T waits for i or for one of T. -/
def needT (md : Region.Mode) (ops : Array Oper) (listed : Array Bool) (nd : List Nat) (i : Nat) (T : List Nat) : Bool :=
  (T.all fun j => !(listed.getD j true) && match ops[j]? with
    | some oj => oj.after.any (fun e => Region.binds md e && (e.on == i || T.contains e.on))
    | none => false) &&
  (List.range ops.size).all fun j => j == i || listed.getD j true || nd.contains j || T.contains j || match ops[j]? with
    | some oj => oj.after.any (fun e => Region.binds md e && e.on == i)
    | none => true
theorem needT_T {listed : Array Bool} {i : Nat} {T : List Nat} (h : needT md ops listed nd i T = true) : (∀ j ∈ T, ∃ oj, ops[j]? = some oj ∧ ∃ e ∈ oj.after, Region.binds md e = true ∧ (e.on = i ∨ e.on ∈ T)) ∧ ∀ j ∈ T, listed.getD j true = false := by
  unfold needT at h
  simp only [Bool.and_eq_true] at h
  refine ⟨fun j hj => ?_, fun j hj => ?_⟩
  · have h1 := List.all_eq_true.1 h.1 j hj
    simp only [Bool.and_eq_true] at h1
    cases ho : ops[j]? with
    | none => rw [ho] at h1; simp at h1
    | some oj =>
      rw [ho] at h1
      obtain ⟨e, he, hb⟩ := Array.any_eq_true'.1 h1.2
      simp only [Bool.and_eq_true, Bool.or_eq_true, beq_iff_eq] at hb
      exact ⟨oj, rfl, e, he, hb.1, hb.2.imp id (fun h => by simpa using h)⟩
  · have h1 := List.all_eq_true.1 h.1 j hj
    simp only [Bool.and_eq_true] at h1
    simpa using h1.1
theorem needT_spec {listed : Array Bool} {i : Nat} {T : List Nat} (h : needT md ops listed nd i T = true) (j : Nat) (oj : Oper) (hj : ops[j]? = some oj) (hji : j ≠ i) (hun : listed.getD j true = false)
    (hno : ∀ e ∈ oj.after, Region.binds md e = true → e.on ≠ i) : nd.contains j = true ∨ j ∈ T := by
  unfold needT at h
  simp only [Bool.and_eq_true] at h
  have hlt := (Array.getElem?_eq_some_iff.1 hj).1
  have h1 := List.all_eq_true.1 h.2 j (List.mem_range.2 hlt)
  rw [hun, hj] at h1
  have h2 : (j == i) = false := by simpa using hji
  rw [h2] at h1
  simp only [Bool.false_or, Bool.or_eq_true] at h1
  rcases h1 with (h1 | h1) | h1
  · exact .inl h1
  · exact .inr (by simpa using h1)
  · obtain ⟨e, he, hb⟩ := Array.any_eq_true'.1 h1
    simp only [Bool.and_eq_true, beq_iff_eq] at hb
    exact absurd hb.2 (hno e he hb.1)
/-- Number i, which yields v in every world that meets S, is taken first; T waits for it by way of others. -/
theorem rn_takeT {i : Nat} {oi : Oper} {dst : Option Tmp} {v : Value} {fuel : Nat} {listed : Array Bool} {a : Act} {w : World} (T : List Nat) (hi : ops[i]? = some oi)
    (hb : (Region.noSelect ops && Region.free md ops listed i && (Region.ready md ops listed).contains i && needT md ops listed nd i T) = true)
    (hQ : ∀ c a w, Q (.panic c) (a.put dst v) w → Q (.panic c) a w) (hd : oi.dst = dst) (hw : Region.wanted oi (yielded ops a.tmps) = true) (hy : ∀ w, S w → (execOp a.eval oi).run P w = .ok (.value v) w) (hS : S w)
    (h : wpAnyN P md ops Q S nd fuel (listed.setIfInBounds i true) (a.put dst v) w) : wpAnyN P md ops Q S nd (fuel + 1) listed a w := by
  subst hd
  simp only [Bool.and_eq_true] at hb
  obtain ⟨⟨⟨hs, hf⟩, hr⟩, hn⟩ := hb
  obtain ⟨h1, h2⟩ := needT_T hn
  exact wpAnyN_firstT T hi (Region.noSelect_spec hs) hQ h1 fuel listed a w h2 (fun j oj hj hji hun hno => ⟨Region.free_spec hi hf j oj hj hji hun hno, needT_spec hn j oj hj hji hun hno⟩) (by simpa using hr) (.inl ⟨hw, hy⟩) hS h
end Go.Proofs.YtkcechpaeilaeaaGreatDoor
