/- append of bytes that may be none. Nothing here names the program. -/
import Derived.Test.YtkcechpaeilaeaaGreatDoorEw
namespace Go.Proofs.YtkcechpaeilaeaaGreatDoor
open Go.RowKit
set_option linter.unusedVariables false
set_option linter.unusedSimpArgs false
variable {P : Program} {ops : Array Oper} {rest : List Oper} {o : Oper} {a : Act} {Q : Exit → Act → World → Prop} {K : Act → World → Prop}
theorem run_append_zero (w : World) (t ty e : TypeId) (i : TypeInfo) (ht : P.underlying t = some (.slice e)) (hi : P.info? e = some i) (B : Option Addr) (n cap : Nat) (hn : n ≤ cap) (A : Option Addr) (c : Nat) :
    (Builtin.append_ #[t, t] ty #[.slice B n cap, .slice A 0 c]).run P w = .ok (.slice B n cap) w := by
  have hst : ∀ ad : Addr, (storeCells ad []).run P w = .ok () w := fun _ => rfl
  cases A with
  | none =>
    cases B with
    | none => simp [Builtin.append_, run_underlying ht, sizeOf, typeInfo, hi, Builtin.lenOf, hn, Builtin.firstCells]
    | some b => simp [Builtin.append_, run_underlying ht, sizeOf, typeInfo, hi, Builtin.lenOf, hn, Builtin.firstCells, hst]
  | some ad =>
    have hf := run_firstCells_some (P := P) w i.size 0 ad 0 c [] (by simp) (by simp)
    cases B with
    | none => simp [Builtin.append_, run_underlying ht, sizeOf, typeInfo, hi, Builtin.lenOf, hn, hf]
    | some b => simp [Builtin.append_, run_underlying ht, sizeOf, typeInfo, hi, Builtin.lenOf, hn, hf, hst]
theorem ownsRow_cap {w : World} {base : Nat} {e : TypeId} {size n : Nat} {v : Value} {xs : List Value} (h : w.ownsRow base e size v n xs) : ∃ A c, v = .slice A n c ∧ n ≤ c := by
  rcases h.2 with ⟨rfl, rfl⟩ | ⟨g, cap, cur, rfl, hg, hh, r, _⟩
  · exact ⟨_, _, rfl, Nat.le_refl _⟩
  · exact ⟨_, _, rfl, r⟩
/-- Bytes behind bytes of one's own. -/
theorem ow_appendBs {w : World} (s x : Operand) (t : TypeId) (ho : o.op = .call { callee := .builtin .append, args := #[s, x], argTypes := #[t, t] })
    (e : TypeId) {z : Value} (ht : P.underlying t = some (.slice e)) (hinf : (P.info? e).map (fun i => (i.zero, i.size, i.bytes)) = some (some z, 1, 1)) (hzs : z.cells.size = 1)
    (v : Value) (xs : List Int) (hs : a.eval s = v) (hown : w.ownsRow 0 e 1 v xs.length (u8s xs))
    (y : Value) (l : List Int) (hx : a.eval x = y) (hy : Bs w y l) (h63 : xs.length + l.length ≤ 1000000000000)
    (h : ∀ v' w', w'.ownsRow 0 e 1 v' (xs ++ l).length (u8s (xs ++ l)) → Kp (fun k => v.ownBlock = some k) w w' → (∀ k, v'.ownBlock = some k → v.ownBlock = some k ∨ w.heap.size ≤ k) → K (a.put o.dst v') w') : o.wp P a w K Q := by
  obtain ⟨A, c, rfl, hc, hr⟩ := hy
  by_cases hl : l = []
  · subst hl
    obtain ⟨i0, hi, hz0, hz1, hz2⟩ := info_parts hinf
    obtain ⟨B, cap, rfl, hcap⟩ := ownsRow_cap hown
    have hrun := run_append_zero (P := P) w t o.type e i0 ht hi B xs.length cap hcap A c
    refine ow_run (v := .slice B xs.length cap) (w' := w) (by
      unfold execOp
      simp only [ho, resolve, invoke, builtin, Sem.run_bind, Sem.run_pure, Result.andThen_ok, List.map_toArray, List.map_cons, List.map_nil, hs, hx, List.length_nil, hrun]) ?_
    rw [List.append_nil] at h
    exact h _ w hown (Kp.refl _ _) (fun k hk => .inl hk)
  · rcases hr with hr | ⟨b, off, rfl, hr⟩
    · exact absurd hr hl
    · have hpos : 0 < l.length := List.length_pos_iff.2 hl
      refine ow_append s x t ho e 1 1 ht hinf hzs (by omega) v xs.length (u8s xs) hs hown b off l.length c (u8s l) hx (by simp) hr (u8s_one l) (by simp only [maxLen]; omega) (by omega) hpos (fun v' w' h1 h2 h3 => ?_)
      refine h v' w' ?_ h2 h3
      rw [List.length_append, u8s_append]
      exact h1
theorem wl_appendBs {w : World} (hg : o.guard = none) (s x : Operand) (t : TypeId) (ho : o.op = .call { callee := .builtin .append, args := #[s, x], argTypes := #[t, t] })
    (e : TypeId) {z : Value} (ht : P.underlying t = some (.slice e)) (hinf : (P.info? e).map (fun i => (i.zero, i.size, i.bytes)) = some (some z, 1, 1)) (hzs : z.cells.size = 1)
    (v : Value) (xs : List Int) (hs : a.eval s = v) (hown : w.ownsRow 0 e 1 v xs.length (u8s xs))
    (y : Value) (l : List Int) (hx : a.eval x = y) (hy : Bs w y l) (h63 : xs.length + l.length ≤ 1000000000000)
    (h : ∀ v' w', w'.ownsRow 0 e 1 v' (xs ++ l).length (u8s (xs ++ l)) → Kp (fun k => v.ownBlock = some k) w w' → (∀ k, v'.ownBlock = some k → v.ownBlock = some k ∨ w.heap.size ≤ k) → wpList P ops Q rest (a.put o.dst v') w') : wpList P ops Q (o :: rest) a w :=
  wpList_plain hg fun _ hK => ow_appendBs s x t ho e ht hinf hzs v xs hs hown y l hx hy h63 (fun v' w' a b c => hK _ _ (h v' w' a b c))
/-- A row of one's own reads as bytes. -/
theorem ownsRow_Bs' {w : World} {e : TypeId} {v : Value} {l : List Int} {n : Nat} (hn : n = l.length) (h : w.ownsRow 0 e 1 v n (u8s l)) : Bs w v l := by
  subst hn
  rcases h.2 with ⟨rfl, h0⟩ | ⟨g, cap, cur, rfl, _, hh, hc, _, hcs, ht⟩
  · have : l = [] := List.eq_nil_of_length_eq_zero h0
    subst this
    exact ⟨none, 0, rfl, Nat.le_refl _, .inl rfl⟩
  · refine ⟨some ⟨g, 0, none⟩, cap, rfl, hc, .inr ⟨g, 0, rfl, ?_⟩⟩
    have hb : Blk w g cur.toList e := by unfold Blk; rw [Array.toArray_toList]; exact hh
    have := hb.range 0 l.length
    rw [List.drop_zero] at this
    rw [Nat.mul_one] at ht
    rw [← ht]
    exact this
end Go.Proofs.YtkcechpaeilaeaaGreatDoor
