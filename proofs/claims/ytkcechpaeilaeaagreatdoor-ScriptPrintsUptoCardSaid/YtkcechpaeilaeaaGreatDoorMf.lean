/- An act in memory; whether it may be, in the words of the tests. -/
import Derived.Test.YtkcechpaeilaeaaGreatDoorM1
import Derived.Test.YtkcechpaeilaeaaGreatDoorWq
namespace Go.Proofs.YtkcechpaeilaeaaGreatDoor
open Go.RowKit
set_option linter.unusedVariables false
set_option linter.unusedSimpArgs false
set_option maxRecDepth 100000

/-- An act's cells in memory. -/
structure Fa (w : World) (b : Nat) (v0 v1 v2 v3 v4 : Value) : Prop where
  c0 : w.cell? ⟨b, 0, none⟩ = some v0
  c1 : w.cell? ⟨b, 1, none⟩ = some v1
  c2 : w.cell? ⟨b, 2, none⟩ = some v2
  c3 : w.cell? ⟨b, 3, none⟩ = some v3
  c4 : w.cell? ⟨b, 4, none⟩ = some v4
theorem Fa.new (w : World) (v0 v1 v2 v3 v4 : Value) : Fa (w.alloc (.cells #[v0, v1, v2, v3, v4] 24)) w.heap.size v0 v1 v2 v3 v4 := by
  constructor <;> (rw [Lib.cell_of_heap (_root_.Go.heap_alloc_new w _)]; rfl)
theorem Fa.keep {w w' : World} {b : Nat} {v0 v1 v2 v3 v4 : Value} (h : Fa w b v0 v1 v2 v3 v4) (hk : Kp (fun _ => False) w w') : Fa w' b v0 v1 v2 v3 v4 :=
  ⟨hk.see h.c0 id, hk.see h.c1 id, hk.see h.c2 id, hk.see h.c3 id, hk.see h.c4 id⟩

theorem may_bool (d : Int) (k t : List UInt8) (n : Int) (p : List UInt8) : decide (may ⟨d, k, t, n, p⟩) = (!(nm d == []) && !(hk d != (k != [])) && !decide ((2000 : Int) < (k.length : Int)) && !decide ((2000 : Int) < (t.length : Int)) && !(!ht d && decide ((0 : Int) < (t.length : Int))) && !(!hn d && decide (n ≠ 0))
    && !decide (n < 0) && !decide (1048576 < n) && (decide ((p.length : Int) ≤ 200) && (decide (d = 12) || decide ((p.length : Int) = 0)))) := by
  rw [Bool.eq_iff_iff]
  have e1 : (nm d == []) = false ↔ (1 ≤ d ∧ d ≤ 14) := by
    rw [beq_eq_false_iff_ne]
    constructor
    · intro h
      refine Decidable.byContradiction fun h2 => h (nm_nil (by omega))
    · intro h
      exact nm_ne_nil h.1 h.2
  have e2 : (decide (k ≠ []) = hk d) ↔ (hk d != (k != [])) = false := by
    cases k <;> cases hk d <;> simp
  have ez : ∀ l : List UInt8, (l = []) ↔ (l.length : Int) = 0 := fun l => by cases l <;> simp; omega
  simp only [may, decide_eq_true_eq, Bool.and_eq_true, Bool.not_eq_true', Bool.or_eq_true, decide_eq_false_iff_not, e1, e2, ez]
  clear e1 e2 ez
  generalize (hk d != (k != [])) = z
  cases z <;> cases ht d <;> cases hn d <;> by_cases hT : t = [] <;> by_cases hP : p = [] <;> simp [hT, hP] <;> omega
theorem rmay_bool {d : Int} {k t : List UInt8} {n : Int} {p : List UInt8} (h1 : 1 ≤ d) (h2 : d ≤ 14) (h3 : (k.length : Int) ≤ 2000) (h4 : (t.length : Int) ≤ 2000) (h5 : (p.length : Int) ≤ 200) (h6 : 0 ≤ n) (h7 : n ≤ 1048576) :
    decide (may ⟨d, k, t, n, p⟩) = ((((decide ((0 : Int) < (k.length : Int)) == hk d) && (decide ((t.length : Int) = 0) || ht d)) && (decide (n = 0) || hn d)) && (decide ((p.length : Int) = 0) || decide (d = 12))) := by
  rw [Bool.eq_iff_iff]
  have e2 : (decide (k ≠ []) = hk d) ↔ (decide ((0 : Int) < (k.length : Int)) == hk d) = true := by
    cases k <;> cases hk d <;> simp <;> omega
  have ez : ∀ l : List UInt8, (l = []) ↔ (l.length : Int) = 0 := fun l => by cases l <;> simp; omega
  simp only [may, decide_eq_true_eq, Bool.and_eq_true, Bool.or_eq_true, e2, ez]
  constructor
  · rintro ⟨_, _, _, _, _, _, _, a, b, c, d⟩
    exact ⟨⟨⟨a, b⟩, c⟩, d⟩
  · rintro ⟨⟨⟨a, b⟩, c⟩, d⟩
    exact ⟨h1, h2, by omega, by omega, by omega, h6, h7, a, b, c, d⟩
end Go.Proofs.YtkcechpaeilaeaaGreatDoor
