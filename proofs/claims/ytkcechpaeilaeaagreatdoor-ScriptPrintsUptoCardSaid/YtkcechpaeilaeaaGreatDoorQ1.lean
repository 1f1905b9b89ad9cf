/- A digit to the base 16; which bytes stand as they are; what a digit says. -/
import Derived.Test.YtkcechpaeilaeaaGreatDoorGa
import Derived.Test.YtkcechpaeilaeaaGreatDoorChecked
namespace Go.Proofs.YtkcechpaeilaeaaGreatDoor
open Go.RowKit
set_option linter.unusedVariables false
set_option linter.unusedSimpArgs false
set_option maxRecDepth 20000

/-- Whether a byte stands as it is. -/
def pln (c : Nat) (bl : Bool) : Bool := decide (32 < c) && decide (c < 127) && !decide (c = 92) || decide (c = 32) && bl
/-- A digit. -/
def hxd (n : Nat) : Nat := if n < 10 then 48 + n else 87 + n
/-- What a digit says; 16: it is none. -/
def vld (c : Nat) : Nat := if 48 ≤ c ∧ c ≤ 57 then c - 48 else if 97 ≤ c ∧ c ≤ 102 then c - 87 else 16

/-- The cases of a byte. -/
theorem pln_cases (c : Nat) (bl : Bool) : (((32 : Int) < c ∧ (c : Int) < 127 ∧ (c : Int) ≠ 92) ∧ pln c bl = true) ∨ ((c : Int) = 32 ∧ bl = true ∧ pln c bl = true) ∨ ((c : Int) = 32 ∧ bl = false ∧ pln c bl = false)
    ∨ ((c : Int) < 32 ∧ pln c bl = false) ∨ ((c : Int) = 92 ∧ pln c bl = false) ∨ ((c : Int) = 127 ∧ pln c bl = false) ∨ ((127 : Int) < c ∧ pln c bl = false) := by
  unfold pln
  rcases Nat.lt_trichotomy c 32 with h | h | h
  · refine .inr (.inr (.inr (.inl ⟨by omega, ?_⟩)))
    simp; omega
  · subst h
    cases bl <;> simp
  · by_cases h2 : c = 92
    · subst h2; simp
    · rcases Nat.lt_trichotomy c 127 with h3 | h3 | h3
      · refine .inl ⟨⟨by omega, by omega, by omega⟩, ?_⟩
        simp [h, h3, h2]
      · subst h3; simp
      · refine .inr (.inr (.inr (.inr (.inr (.inr ⟨by omega, ?_⟩)))))
        simp; omega
theorem plain_at (c : Nat) (bl : Bool) (w : World) : Calls Tryz.prog 55 #[.int .u8 (c : Int), .bool bl] w fun e w' => e = .returned (.bool (pln c bl)) ∧ w = w' := by
  rcases pln_cases c bl with ⟨⟨h1, h2, h3⟩, hp⟩ | ⟨h1, rfl, hp⟩ | ⟨h1, rfl, hp⟩ | ⟨h1, hp⟩ | ⟨h1, hp⟩ | ⟨h1, hp⟩ | ⟨h1, hp⟩ <;> (have hp := Hd.mk hp) <;> (generalize (c : Int) = z at *; try subst h1)
  all_goals go_enter Tryz.func55, Tryz.ntmps55
  all_goals go_wp2_with fail
  all_goals (go_ret; simp [hp.out])
theorem plain_ref (c : Nat) (bl : Bool) (w : World) : Calls Tryz.prog 60 #[.int .u8 (c : Int), .bool bl] w fun e w' => e = .returned (.bool (pln c bl)) ∧ w = w' := by
  rcases pln_cases c bl with ⟨⟨h1, h2, h3⟩, hp⟩ | ⟨h1, rfl, hp⟩ | ⟨h1, rfl, hp⟩ | ⟨h1, hp⟩ | ⟨h1, hp⟩ | ⟨h1, hp⟩ | ⟨h1, hp⟩ <;> (have hp := Hd.mk hp) <;> (generalize (c : Int) = z at *; try subst h1)
  all_goals go_enter Tryz.func60, Tryz.ntmps60
  all_goals go_wp2_with fail
  all_goals (go_ret; simp [hp.out])
theorem hex_at (n : Nat) (hn : n < 16) (w : World) : Calls Tryz.prog 61 #[.int .i64 (n : Int)] w fun e w' => e = .returned (.int .u8 (hxd n : Int)) ∧ w = w' := by
  have h0 : (n : Int) < 16 := by omega
  by_cases h : n < 10
  · have h2 : (n : Int) < 10 := by omega
    have hp : Hd ((hxd n : Int) = 48 + (n : Int)) := ⟨by unfold hxd; rw [if_pos h]; omega⟩
    clear h hn
    go_enter Tryz.func61, Tryz.ntmps61
    go_wp2_with fail
    go_ret
    simp [hp.out]
  · have h2 : (9 : Int) < n := by omega
    have hp : Hd ((hxd n : Int) = 97 + (n : Int) - 10) := ⟨by unfold hxd; rw [if_neg h]; omega⟩
    clear h hn
    go_enter Tryz.func61, Tryz.ntmps61
    go_wp2_with fail
    go_ret
    simp [hp.out]
end Go.Proofs.YtkcechpaeilaeaaGreatDoor
