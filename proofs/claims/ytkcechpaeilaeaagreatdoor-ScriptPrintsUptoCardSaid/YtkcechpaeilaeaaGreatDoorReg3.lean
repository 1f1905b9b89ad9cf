/- A region that draws: two operations may come up. -/
import Derived.Test.YtkcechpaeilaeaaGreatDoorGa
import Derived.Test.YtkcechpaeilaeaaGreatDoorTa
namespace Go.Proofs.YtkcechpaeilaeaaGreatDoor
open Go
set_option linter.unusedVariables false
variable {P : Program} {ops : Array Oper} {Q : Exit → Act → World → Prop} {md : Region.Mode} {S : World → Prop} {nd : List Nat}
theorem rn_two {i j : Nat} {oi oj : Oper} {di dj : Option Tmp} {fuel : Nat} {listed : Array Bool} {a : Act} {w : World} (hi : ops[i]? = some oi) (hj : ops[j]? = some oj) (hr : Region.ready md ops listed = [i, j]) (hdi : oi.dst = di) (hdj : oj.dst = dj) (hwi : Region.wanted oi (yielded ops a.tmps) = true) (hwj : Region.wanted oj (yielded ops a.tmps) = true)
    (h1 : ∀ K : Act → World → Prop, (∀ v w', (nd.contains i = true → S w') → wpAnyN P md ops Q S nd fuel (listed.setIfInBounds i true) (a.put di v) w' → K (a.put oi.dst v) w') → oi.wp P a w K Q)
    (h2 : ∀ K : Act → World → Prop, (∀ v w', (nd.contains j = true → S w') → wpAnyN P md ops Q S nd fuel (listed.setIfInBounds j true) (a.put dj v) w' → K (a.put oj.dst v) w') → oj.wp P a w K Q) : wpAnyN P md ops Q S nd (fuel + 1) listed a w := by
  subst hdi hdj
  refine ⟨fun h0 => (by rw [hr] at h0; cases h0), fun k hk => ?_⟩
  rw [hr] at hk
  simp only [List.mem_cons, List.not_mem_nil, or_false] at hk
  rcases hk with rfl | rfl
  · unfold wpOp
    simp only [hi]
    rw [if_pos hwi]
    exact .inl (h1 _ (fun v w' h1 h2 => ⟨h1, h2⟩))
  · unfold wpOp
    simp only [hj]
    rw [if_pos hwj]
    exact .inl (h2 _ (fun v w' h1 h2 => ⟨h1, h2⟩))
section
variable {o : Oper} {a : Act}
theorem ex_quoK (w : World) (t t2 : TypeId) (x y : Operand) (ho : o.op = .binOp .quo t x y t2) (c m : Nat) (hm : 0 < m) (hc : c < 4000000000000000000) (hx : a.eval x = .int .i64 (c : Int)) (hy : a.eval y = .int .i64 (m : Int)) : (execOp a.eval o).run P w = .ok (.value (.int .i64 ((c / m : Nat) : Int))) w := by
  have hdm : c / m ≤ c := Nat.div_le_self _ _
  have hw : IntKind.i64.wrap ((c / m : Nat) : Int) = ((c / m : Nat) : Int) := by
    rw [IntKind.wrap_i64]
    generalize c / m = q at *
    omega
  have ht : ((c : Int).tdiv (m : Int)) = ((c / m : Nat) : Int) := by rw [Int.tdiv_eq_ediv_of_nonneg (by omega)]; simp
  have e : (binOp .quo t (.int .i64 (c : Int)) (.int .i64 (m : Int))).run P w = .ok (.int .i64 ((c / m : Nat) : Int)) w := by
    have hm0 : ¬ (m : Int) = 0 := by omega
    simp only [binOp_quo]
    rw [show Op.intDiv .quo .i64 (c : Int) (m : Int) = pure (.int .i64 (IntKind.i64.wrap ((c : Int).tdiv (m : Int)))) by simp only [Op.intDiv, hm0, if_false], ht, hw]
    rfl
  unfold execOp
  simp only [ho, hx, hy, Sem.run_bind, eqGuard_quo, e, Sem.run_pure, Result.andThen_ok]
theorem ex_remK (w : World) (t t2 : TypeId) (x y : Operand) (ho : o.op = .binOp .rem t x y t2) (c m : Nat) (hm : 0 < m) (hc : c < 4000000000000000000) (hx : a.eval x = .int .i64 (c : Int)) (hy : a.eval y = .int .i64 (m : Int)) : (execOp a.eval o).run P w = .ok (.value (.int .i64 ((c % m : Nat) : Int))) w := by
  have ht : ((c : Int).tmod (m : Int)) = ((c % m : Nat) : Int) := by rw [Int.tmod_eq_emod_of_nonneg (by omega)]; simp
  have e : (binOp .rem t (.int .i64 (c : Int)) (.int .i64 (m : Int))).run P w = .ok (.int .i64 ((c % m : Nat) : Int)) w := by
    have hm0 : ¬ (m : Int) = 0 := by omega
    simp only [binOp_rem]
    rw [show Op.intDiv .rem .i64 (c : Int) (m : Int) = pure (.int .i64 ((c : Int).tmod (m : Int))) by simp only [Op.intDiv, hm0, if_false], ht]
    rfl
  unfold execOp
  simp only [ho, hx, hy, Sem.run_bind, eqGuard_rem, e, Sem.run_pure, Result.andThen_ok]
end
end Go.Proofs.YtkcechpaeilaeaaGreatDoor
