/- Joined out of: Pa. -/
import Derived.Test.YtkcechpaeilaeaaGreatDoorK4
set_option linter.unusedVariables false
set_option linter.unusedSimpArgs false
namespace Go.Proofs.YtkcechpaeilaeaaGreatDoor
open Go.RowKit
set_option maxRecDepth 20000
def lett (r : Int) : Bool := decide (r ≠ 215 ∧ r ≠ 247 ∧ ((48 ≤ r ∧ r ≤ 57) ∨ (65 ≤ r ∧ r ≤ 90) ∨ (97 ≤ r ∧ r ≤ 122) ∨ (192 ≤ r ∧ r ≤ 591) ∨ (880 ≤ r ∧ r ≤ 1279)))
theorem lett_bd {r : Int} (h : lett r = true) : 48 ≤ r ∧ r ≤ 1279 := by
 have := of_decide_eq_true h
 omega
theorem within_at (r lo hi : Int) (w : World) : Calls Tryz.prog 149 #[.int .i32 r, .int .i32 lo, .int .i32 hi] w fun e w' => e = .returned (.bool (decide (lo ≤ r ∧ r ≤ hi))) ∧ w' = w := by
 by_cases h1 : lo ≤ r
 ·by_cases h2 : r ≤ hi
  ·rw [show decide (lo ≤ r ∧ r ≤ hi) = true from decide_eq_true ⟨h1, h2⟩]
   go_enter Tryz.func149, Tryz.ntmps149
   go_wp2
   go_ret
   exact ⟨rfl, rfl⟩
  ·rw [show decide (lo ≤ r ∧ r ≤ hi) = false from decide_eq_false (fun h => h2 h.2)]
   go_enter Tryz.func149, Tryz.ntmps149
   go_wp2
   go_ret
   exact ⟨rfl, rfl⟩
 ·rw [show decide (lo ≤ r ∧ r ≤ hi) = false from decide_eq_false (fun h => h1 h.1)]
  go_enter Tryz.func149, Tryz.ntmps149
  go_wp2
  go_ret
  exact ⟨rfl, rfl⟩
theorem within_b (r lo hi : Int) (b : Bool) (hb : decide (lo ≤ r ∧ r ≤ hi) = b) (w : World) : Calls Tryz.prog 149 #[.int .i32 r, .int .i32 lo, .int .i32 hi] w fun e w' => e = .returned (.bool b) ∧ w' = w := hb ▸ within_at r lo hi w
set_option maxHeartbeats 1000000 in
theorem letter_at (r : Int) (w : World) : Calls Tryz.prog 132 #[.int .i32 r] w fun e w' => e = .returned (.bool (lett r)) ∧ w' = w := by
 obtain ⟨b1, h1⟩ : ∃ b, Hd (decide ((48 : Int) ≤ r ∧ r ≤ 57) = b) := ⟨_, ⟨rfl⟩⟩
 obtain ⟨b2, h2⟩ : ∃ b, Hd (decide ((65 : Int) ≤ r ∧ r ≤ 90) = b) := ⟨_, ⟨rfl⟩⟩
 obtain ⟨b3, h3⟩ : ∃ b, Hd (decide ((97 : Int) ≤ r ∧ r ≤ 122) = b) := ⟨_, ⟨rfl⟩⟩
 obtain ⟨b4, h4⟩ : ∃ b, Hd (decide ((192 : Int) ≤ r ∧ r ≤ 591) = b) := ⟨_, ⟨rfl⟩⟩
 obtain ⟨b5, h5⟩ : ∃ b, Hd (decide ((880 : Int) ≤ r ∧ r ≤ 1279) = b) := ⟨_, ⟨rfl⟩⟩
 obtain ⟨b6, h6⟩ : ∃ b, Hd (decide (r = 215) = b) := ⟨_, ⟨rfl⟩⟩
 obtain ⟨b7, h7⟩ : ∃ b, Hd (decide (r = 247) = b) := ⟨_, ⟨rfl⟩⟩
 have hl : lett r = (!b6 && !b7 && (b1 || b2 || b3 || b4 || b5)) := by
  rw [← h1.out, ← h2.out, ← h3.out, ← h4.out, ← h5.out, ← h6.out, ← h7.out, Bool.eq_iff_iff]
  simp only [lett, decide_eq_true_eq, Bool.and_eq_true, Bool.or_eq_true, Bool.not_eq_true', decide_eq_false_iff_not]
  omega
 rw [hl]
 clear hl
 cases b6
 ·cases b7
  ·cases b1
   ·cases b2
    ·cases b3
     ·cases b4
      ·cases b5
       ·go_enter Tryz.func132, Tryz.ntmps132
        go_wp2_with (first | (with_reducible refine wl_run rfl (ex_eql _ 21 21 (.tmp 4) (.const (.int .i32 215)) rfl .i32 r 215 rfl rfl false h6.out) ?_) | (with_reducible refine wl_run rfl (ex_eql _ 21 21 (.tmp 6) (.const (.int .i32 247)) rfl .i32 r 247 rfl rfl false h7.out) ?_) | (go_at_call 149; (first | with_reducible refine (within_b _ _ _ _ h1.out _).mono ?_ | with_reducible refine (within_b _ _ _ _ h2.out _).mono ?_ | with_reducible refine (within_b _ _ _ _ h3.out _).mono ?_ | with_reducible refine (within_b _ _ _ _ h4.out _).mono ?_ | with_reducible refine (within_b _ _ _ _ h5.out _).mono ?_); rintro e w' ⟨rfl, rfl⟩; dsimp only))
        go_ret
        exact ⟨by simp, rfl⟩
       ·go_enter Tryz.func132, Tryz.ntmps132
        go_wp2_with (first | (with_reducible refine wl_run rfl (ex_eql _ 21 21 (.tmp 4) (.const (.int .i32 215)) rfl .i32 r 215 rfl rfl false h6.out) ?_) | (with_reducible refine wl_run rfl (ex_eql _ 21 21 (.tmp 6) (.const (.int .i32 247)) rfl .i32 r 247 rfl rfl false h7.out) ?_) | (go_at_call 149; (first | with_reducible refine (within_b _ _ _ _ h1.out _).mono ?_ | with_reducible refine (within_b _ _ _ _ h2.out _).mono ?_ | with_reducible refine (within_b _ _ _ _ h3.out _).mono ?_ | with_reducible refine (within_b _ _ _ _ h4.out _).mono ?_ | with_reducible refine (within_b _ _ _ _ h5.out _).mono ?_); rintro e w' ⟨rfl, rfl⟩; dsimp only))
        go_ret
        exact ⟨by simp, rfl⟩
      ·go_enter Tryz.func132, Tryz.ntmps132
       go_wp2_with (first | (with_reducible refine wl_run rfl (ex_eql _ 21 21 (.tmp 4) (.const (.int .i32 215)) rfl .i32 r 215 rfl rfl false h6.out) ?_) | (with_reducible refine wl_run rfl (ex_eql _ 21 21 (.tmp 6) (.const (.int .i32 247)) rfl .i32 r 247 rfl rfl false h7.out) ?_) | (go_at_call 149; (first | with_reducible refine (within_b _ _ _ _ h1.out _).mono ?_ | with_reducible refine (within_b _ _ _ _ h2.out _).mono ?_ | with_reducible refine (within_b _ _ _ _ h3.out _).mono ?_ | with_reducible refine (within_b _ _ _ _ h4.out _).mono ?_ | with_reducible refine (within_b _ _ _ _ h5.out _).mono ?_); rintro e w' ⟨rfl, rfl⟩; dsimp only))
       go_ret
       exact ⟨by simp, rfl⟩
     ·go_enter Tryz.func132, Tryz.ntmps132
      go_wp2_with (first | (with_reducible refine wl_run rfl (ex_eql _ 21 21 (.tmp 4) (.const (.int .i32 215)) rfl .i32 r 215 rfl rfl false h6.out) ?_) | (with_reducible refine wl_run rfl (ex_eql _ 21 21 (.tmp 6) (.const (.int .i32 247)) rfl .i32 r 247 rfl rfl false h7.out) ?_) | (go_at_call 149; (first | with_reducible refine (within_b _ _ _ _ h1.out _).mono ?_ | with_reducible refine (within_b _ _ _ _ h2.out _).mono ?_ | with_reducible refine (within_b _ _ _ _ h3.out _).mono ?_ | with_reducible refine (within_b _ _ _ _ h4.out _).mono ?_ | with_reducible refine (within_b _ _ _ _ h5.out _).mono ?_); rintro e w' ⟨rfl, rfl⟩; dsimp only))
      go_ret
      exact ⟨by simp, rfl⟩
    ·go_enter Tryz.func132, Tryz.ntmps132
     go_wp2_with (first | (with_reducible refine wl_run rfl (ex_eql _ 21 21 (.tmp 4) (.const (.int .i32 215)) rfl .i32 r 215 rfl rfl false h6.out) ?_) | (with_reducible refine wl_run rfl (ex_eql _ 21 21 (.tmp 6) (.const (.int .i32 247)) rfl .i32 r 247 rfl rfl false h7.out) ?_) | (go_at_call 149; (first | with_reducible refine (within_b _ _ _ _ h1.out _).mono ?_ | with_reducible refine (within_b _ _ _ _ h2.out _).mono ?_ | with_reducible refine (within_b _ _ _ _ h3.out _).mono ?_ | with_reducible refine (within_b _ _ _ _ h4.out _).mono ?_ | with_reducible refine (within_b _ _ _ _ h5.out _).mono ?_); rintro e w' ⟨rfl, rfl⟩; dsimp only))
     go_ret
     exact ⟨by simp, rfl⟩
   ·go_enter Tryz.func132, Tryz.ntmps132
    go_wp2_with (first | (with_reducible refine wl_run rfl (ex_eql _ 21 21 (.tmp 4) (.const (.int .i32 215)) rfl .i32 r 215 rfl rfl false h6.out) ?_) | (with_reducible refine wl_run rfl (ex_eql _ 21 21 (.tmp 6) (.const (.int .i32 247)) rfl .i32 r 247 rfl rfl false h7.out) ?_) | (go_at_call 149; (first | with_reducible refine (within_b _ _ _ _ h1.out _).mono ?_ | with_reducible refine (within_b _ _ _ _ h2.out _).mono ?_ | with_reducible refine (within_b _ _ _ _ h3.out _).mono ?_ | with_reducible refine (within_b _ _ _ _ h4.out _).mono ?_ | with_reducible refine (within_b _ _ _ _ h5.out _).mono ?_); rintro e w' ⟨rfl, rfl⟩; dsimp only))
    go_ret
    exact ⟨by simp, rfl⟩
  ·go_enter Tryz.func132, Tryz.ntmps132
   go_wp2_with (first | (with_reducible refine wl_run rfl (ex_eql _ 21 21 (.tmp 4) (.const (.int .i32 215)) rfl .i32 r 215 rfl rfl false h6.out) ?_) | (with_reducible refine wl_run rfl (ex_eql _ 21 21 (.tmp 6) (.const (.int .i32 247)) rfl .i32 r 247 rfl rfl true h7.out) ?_))
   go_ret
   exact ⟨rfl, rfl⟩
 ·go_enter Tryz.func132, Tryz.ntmps132
  go_wp2_with (with_reducible refine wl_run rfl (ex_eql _ 21 21 (.tmp 4) (.const (.int .i32 215)) rfl .i32 r 215 rfl rfl true h6.out) ?_)
  go_ret
  exact ⟨by simp, rfl⟩
set_option maxHeartbeats 1000000 in
theorem rletter_at (r : Int) (w : World) : Calls Tryz.prog 137 #[.int .i32 r] w fun e w' => e = .returned (.bool (lett r)) ∧ w' = w := by
 have hc : (r < 48) ∨ (48 ≤ r ∧ r < 58) ∨ (58 ≤ r ∧ r < 65) ∨ (65 ≤ r ∧ r < 91) ∨ (91 ≤ r ∧ r < 97) ∨ (97 ≤ r ∧ r < 123) ∨ (123 ≤ r ∧ r < 192) ∨ (192 ≤ r ∧ r < 215) ∨ (215 ≤ r ∧ r < 216) ∨ (216 ≤ r ∧ r < 247) ∨ (247 ≤ r ∧ r < 248) ∨ (248 ≤ r ∧ r < 592) ∨ (592 ≤ r ∧ r < 880) ∨ (880 ≤ r ∧ r < 1280) ∨ (1280 ≤ r) := by omega
 rcases hc with hc | hc | hc | hc | hc | hc | hc | hc | hc | hc | hc | hc | hc | hc | hc
 ·have hl : lett r = false := decide_eq_false (by omega)
  rw [hl]
  have k0 : ¬ (48 : Int) ≤ r := by omega
  have k1 : r ≤ (57 : Int) := by omega
  have k2 : ¬ (97 : Int) ≤ r := by omega
  have k3 : r ≤ (122 : Int) := by omega
  have k4 : ¬ (65 : Int) ≤ r := by omega
  have k5 : r ≤ (90 : Int) := by omega
  have k6 : ¬ (192 : Int) ≤ r := by omega
  have k7 : r ≤ (591 : Int) := by omega
  have k8 : ¬ (880 : Int) ≤ r := by omega
  have k9 : r ≤ (1279 : Int) := by omega
  have k10 : (r == (215 : Int)) = false := by simp only [beq_eq_false_iff_ne, ne_eq]; omega
  have k11 : (r == (247 : Int)) = false := by simp only [beq_eq_false_iff_ne, ne_eq]; omega
  clear hc hl
  go_enter Tryz.func137, Tryz.ntmps137
  go_wp2
  all_goals (go_ret; exact ⟨rfl, rfl⟩)
 ·have hl : lett r = true := decide_eq_true (by omega)
  rw [hl]
  have k0 : (48 : Int) ≤ r := by omega
  have k1 : r ≤ (57 : Int) := by omega
  have k2 : ¬ (97 : Int) ≤ r := by omega
  have k3 : r ≤ (122 : Int) := by omega
  have k4 : ¬ (65 : Int) ≤ r := by omega
  have k5 : r ≤ (90 : Int) := by omega
  have k6 : ¬ (192 : Int) ≤ r := by omega
  have k7 : r ≤ (591 : Int) := by omega
  have k8 : ¬ (880 : Int) ≤ r := by omega
  have k9 : r ≤ (1279 : Int) := by omega
  have k10 : (r == (215 : Int)) = false := by simp only [beq_eq_false_iff_ne, ne_eq]; omega
  have k11 : (r == (247 : Int)) = false := by simp only [beq_eq_false_iff_ne, ne_eq]; omega
  clear hc hl
  go_enter Tryz.func137, Tryz.ntmps137
  go_wp2
  all_goals (go_ret; exact ⟨rfl, rfl⟩)
 ·have hl : lett r = false := decide_eq_false (by omega)
  rw [hl]
  have k0 : (48 : Int) ≤ r := by omega
  have k1 : ¬ r ≤ (57 : Int) := by omega
  have k2 : ¬ (97 : Int) ≤ r := by omega
  have k3 : r ≤ (122 : Int) := by omega
  have k4 : ¬ (65 : Int) ≤ r := by omega
  have k5 : r ≤ (90 : Int) := by omega
  have k6 : ¬ (192 : Int) ≤ r := by omega
  have k7 : r ≤ (591 : Int) := by omega
  have k8 : ¬ (880 : Int) ≤ r := by omega
  have k9 : r ≤ (1279 : Int) := by omega
  have k10 : (r == (215 : Int)) = false := by simp only [beq_eq_false_iff_ne, ne_eq]; omega
  have k11 : (r == (247 : Int)) = false := by simp only [beq_eq_false_iff_ne, ne_eq]; omega
  clear hc hl
  go_enter Tryz.func137, Tryz.ntmps137
  go_wp2
  all_goals (go_ret; exact ⟨rfl, rfl⟩)
 ·have hl : lett r = true := decide_eq_true (by omega)
  rw [hl]
  have k0 : (48 : Int) ≤ r := by omega
  have k1 : ¬ r ≤ (57 : Int) := by omega
  have k2 : ¬ (97 : Int) ≤ r := by omega
  have k3 : r ≤ (122 : Int) := by omega
  have k4 : (65 : Int) ≤ r := by omega
  have k5 : r ≤ (90 : Int) := by omega
  have k6 : ¬ (192 : Int) ≤ r := by omega
  have k7 : r ≤ (591 : Int) := by omega
  have k8 : ¬ (880 : Int) ≤ r := by omega
  have k9 : r ≤ (1279 : Int) := by omega
  have k10 : (r == (215 : Int)) = false := by simp only [beq_eq_false_iff_ne, ne_eq]; omega
  have k11 : (r == (247 : Int)) = false := by simp only [beq_eq_false_iff_ne, ne_eq]; omega
  clear hc hl
  go_enter Tryz.func137, Tryz.ntmps137
  go_wp2
  all_goals (go_ret; exact ⟨rfl, rfl⟩)
 ·have hl : lett r = false := decide_eq_false (by omega)
  rw [hl]
  have k0 : (48 : Int) ≤ r := by omega
  have k1 : ¬ r ≤ (57 : Int) := by omega
  have k2 : ¬ (97 : Int) ≤ r := by omega
  have k3 : r ≤ (122 : Int) := by omega
  have k4 : (65 : Int) ≤ r := by omega
  have k5 : ¬ r ≤ (90 : Int) := by omega
  have k6 : ¬ (192 : Int) ≤ r := by omega
  have k7 : r ≤ (591 : Int) := by omega
  have k8 : ¬ (880 : Int) ≤ r := by omega
  have k9 : r ≤ (1279 : Int) := by omega
  have k10 : (r == (215 : Int)) = false := by simp only [beq_eq_false_iff_ne, ne_eq]; omega
  have k11 : (r == (247 : Int)) = false := by simp only [beq_eq_false_iff_ne, ne_eq]; omega
  clear hc hl
  go_enter Tryz.func137, Tryz.ntmps137
  go_wp2
  all_goals (go_ret; exact ⟨rfl, rfl⟩)
 ·have hl : lett r = true := decide_eq_true (by omega)
  rw [hl]
  have k0 : (48 : Int) ≤ r := by omega
  have k1 : ¬ r ≤ (57 : Int) := by omega
  have k2 : (97 : Int) ≤ r := by omega
  have k3 : r ≤ (122 : Int) := by omega
  have k4 : (65 : Int) ≤ r := by omega
  have k5 : ¬ r ≤ (90 : Int) := by omega
  have k6 : ¬ (192 : Int) ≤ r := by omega
  have k7 : r ≤ (591 : Int) := by omega
  have k8 : ¬ (880 : Int) ≤ r := by omega
  have k9 : r ≤ (1279 : Int) := by omega
  have k10 : (r == (215 : Int)) = false := by simp only [beq_eq_false_iff_ne, ne_eq]; omega
  have k11 : (r == (247 : Int)) = false := by simp only [beq_eq_false_iff_ne, ne_eq]; omega
  clear hc hl
  go_enter Tryz.func137, Tryz.ntmps137
  go_wp2
  all_goals (go_ret; exact ⟨rfl, rfl⟩)
 ·have hl : lett r = false := decide_eq_false (by omega)
  rw [hl]
  have k0 : (48 : Int) ≤ r := by omega
  have k1 : ¬ r ≤ (57 : Int) := by omega
  have k2 : (97 : Int) ≤ r := by omega
  have k3 : ¬ r ≤ (122 : Int) := by omega
  have k4 : (65 : Int) ≤ r := by omega
  have k5 : ¬ r ≤ (90 : Int) := by omega
  have k6 : ¬ (192 : Int) ≤ r := by omega
  have k7 : r ≤ (591 : Int) := by omega
  have k8 : ¬ (880 : Int) ≤ r := by omega
  have k9 : r ≤ (1279 : Int) := by omega
  have k10 : (r == (215 : Int)) = false := by simp only [beq_eq_false_iff_ne, ne_eq]; omega
  have k11 : (r == (247 : Int)) = false := by simp only [beq_eq_false_iff_ne, ne_eq]; omega
  clear hc hl
  go_enter Tryz.func137, Tryz.ntmps137
  go_wp2
  all_goals (go_ret; exact ⟨rfl, rfl⟩)
 ·have hl : lett r = true := decide_eq_true (by omega)
  rw [hl]
  have k0 : (48 : Int) ≤ r := by omega
  have k1 : ¬ r ≤ (57 : Int) := by omega
  have k2 : (97 : Int) ≤ r := by omega
  have k3 : ¬ r ≤ (122 : Int) := by omega
  have k4 : (65 : Int) ≤ r := by omega
  have k5 : ¬ r ≤ (90 : Int) := by omega
  have k6 : (192 : Int) ≤ r := by omega
  have k7 : r ≤ (591 : Int) := by omega
  have k8 : ¬ (880 : Int) ≤ r := by omega
  have k9 : r ≤ (1279 : Int) := by omega
  have k10 : (r == (215 : Int)) = false := by simp only [beq_eq_false_iff_ne, ne_eq]; omega
  have k11 : (r == (247 : Int)) = false := by simp only [beq_eq_false_iff_ne, ne_eq]; omega
  clear hc hl
  go_enter Tryz.func137, Tryz.ntmps137
  go_wp2
  all_goals (go_ret; exact ⟨rfl, rfl⟩)
 ·have hl : lett r = false := decide_eq_false (by omega)
  rw [hl]
  obtain rfl : r = 215 := by omega
  clear hc hl
  go_enter Tryz.func137, Tryz.ntmps137
  go_wp2
  all_goals (go_ret; exact ⟨rfl, rfl⟩)
 ·have hl : lett r = true := decide_eq_true (by omega)
  rw [hl]
  have k0 : (48 : Int) ≤ r := by omega
  have k1 : ¬ r ≤ (57 : Int) := by omega
  have k2 : (97 : Int) ≤ r := by omega
  have k3 : ¬ r ≤ (122 : Int) := by omega
  have k4 : (65 : Int) ≤ r := by omega
  have k5 : ¬ r ≤ (90 : Int) := by omega
  have k6 : (192 : Int) ≤ r := by omega
  have k7 : r ≤ (591 : Int) := by omega
  have k8 : ¬ (880 : Int) ≤ r := by omega
  have k9 : r ≤ (1279 : Int) := by omega
  have k10 : (r == (215 : Int)) = false := by simp only [beq_eq_false_iff_ne, ne_eq]; omega
  have k11 : (r == (247 : Int)) = false := by simp only [beq_eq_false_iff_ne, ne_eq]; omega
  clear hc hl
  go_enter Tryz.func137, Tryz.ntmps137
  go_wp2
  all_goals (go_ret; exact ⟨rfl, rfl⟩)
 ·have hl : lett r = false := decide_eq_false (by omega)
  rw [hl]
  obtain rfl : r = 247 := by omega
  clear hc hl
  go_enter Tryz.func137, Tryz.ntmps137
  go_wp2
  all_goals (go_ret; exact ⟨rfl, rfl⟩)
 ·have hl : lett r = true := decide_eq_true (by omega)
  rw [hl]
  have k0 : (48 : Int) ≤ r := by omega
  have k1 : ¬ r ≤ (57 : Int) := by omega
  have k2 : (97 : Int) ≤ r := by omega
  have k3 : ¬ r ≤ (122 : Int) := by omega
  have k4 : (65 : Int) ≤ r := by omega
  have k5 : ¬ r ≤ (90 : Int) := by omega
  have k6 : (192 : Int) ≤ r := by omega
  have k7 : r ≤ (591 : Int) := by omega
  have k8 : ¬ (880 : Int) ≤ r := by omega
  have k9 : r ≤ (1279 : Int) := by omega
  have k10 : (r == (215 : Int)) = false := by simp only [beq_eq_false_iff_ne, ne_eq]; omega
  have k11 : (r == (247 : Int)) = false := by simp only [beq_eq_false_iff_ne, ne_eq]; omega
  clear hc hl
  go_enter Tryz.func137, Tryz.ntmps137
  go_wp2
  all_goals (go_ret; exact ⟨rfl, rfl⟩)
 ·have hl : lett r = false := decide_eq_false (by omega)
  rw [hl]
  have k0 : (48 : Int) ≤ r := by omega
  have k1 : ¬ r ≤ (57 : Int) := by omega
  have k2 : (97 : Int) ≤ r := by omega
  have k3 : ¬ r ≤ (122 : Int) := by omega
  have k4 : (65 : Int) ≤ r := by omega
  have k5 : ¬ r ≤ (90 : Int) := by omega
  have k6 : (192 : Int) ≤ r := by omega
  have k7 : ¬ r ≤ (591 : Int) := by omega
  have k8 : ¬ (880 : Int) ≤ r := by omega
  have k9 : r ≤ (1279 : Int) := by omega
  have k10 : (r == (215 : Int)) = false := by simp only [beq_eq_false_iff_ne, ne_eq]; omega
  have k11 : (r == (247 : Int)) = false := by simp only [beq_eq_false_iff_ne, ne_eq]; omega
  clear hc hl
  go_enter Tryz.func137, Tryz.ntmps137
  go_wp2
  all_goals (go_ret; exact ⟨rfl, rfl⟩)
 ·have hl : lett r = true := decide_eq_true (by omega)
  rw [hl]
  have k0 : (48 : Int) ≤ r := by omega
  have k1 : ¬ r ≤ (57 : Int) := by omega
  have k2 : (97 : Int) ≤ r := by omega
  have k3 : ¬ r ≤ (122 : Int) := by omega
  have k4 : (65 : Int) ≤ r := by omega
  have k5 : ¬ r ≤ (90 : Int) := by omega
  have k6 : (192 : Int) ≤ r := by omega
  have k7 : ¬ r ≤ (591 : Int) := by omega
  have k8 : (880 : Int) ≤ r := by omega
  have k9 : r ≤ (1279 : Int) := by omega
  have k10 : (r == (215 : Int)) = false := by simp only [beq_eq_false_iff_ne, ne_eq]; omega
  have k11 : (r == (247 : Int)) = false := by simp only [beq_eq_false_iff_ne, ne_eq]; omega
  clear hc hl
  go_enter Tryz.func137, Tryz.ntmps137
  go_wp2
  all_goals (go_ret; exact ⟨rfl, rfl⟩)
 ·have hl : lett r = false := decide_eq_false (by omega)
  rw [hl]
  have k0 : (48 : Int) ≤ r := by omega
  have k1 : ¬ r ≤ (57 : Int) := by omega
  have k2 : (97 : Int) ≤ r := by omega
  have k3 : ¬ r ≤ (122 : Int) := by omega
  have k4 : (65 : Int) ≤ r := by omega
  have k5 : ¬ r ≤ (90 : Int) := by omega
  have k6 : (192 : Int) ≤ r := by omega
  have k7 : ¬ r ≤ (591 : Int) := by omega
  have k8 : (880 : Int) ≤ r := by omega
  have k9 : ¬ r ≤ (1279 : Int) := by omega
  have k10 : (r == (215 : Int)) = false := by simp only [beq_eq_false_iff_ne, ne_eq]; omega
  have k11 : (r == (247 : Int)) = false := by simp only [beq_eq_false_iff_ne, ne_eq]; omega
  clear hc hl
  go_enter Tryz.func137, Tryz.ntmps137
  go_wp2
  all_goals (go_ret; exact ⟨rfl, rfl⟩)
end Go.Proofs.YtkcechpaeilaeaaGreatDoor
namespace Go.Proofs.YtkcechpaeilaeaaGreatDoor
open Go.RowKit
set_option maxRecDepth 20000
section
variable {P : Program} {o : Oper} {a : Act}
theorem ex_convz (w : World) (s d : TypeId) (x : Operand) (ho : o.op = .convert s d x) (hs : (P.underlying s).isSome = true) (kd : IntKind) (hd : P.underlying d = some (.int kd)) (k : IntKind) (c z : Int) (hx : a.eval x = .int k c) (hz : kd.wrap c = z) :
  (execOp a.eval o).run P w = .ok (.value (.int kd z)) w := by
 unfold execOp
 have hk : P.intKind d = kd := by simp [Program.intKind, hd]
 have e := run_convert_int (P := P) w s d k c hs (by rw [hk]; exact hd)
 rw [hk, hz] at e
 simp only [ho, hx, Sem.run_bind, e, Result.andThen_ok, Sem.run_pure]
theorem ex_addk (w : World) (t t2 : Nat) (x y : Operand) (ho : o.op = .binOp .add t x y t2) (k : IntKind) (p q : Int) (hx : a.eval x = .int k p) (hy : a.eval y = .int k q) (z : Int) (hz : k.wrap (p + q) = z) :
  (execOp a.eval o).run P w = .ok (.value (.int k z)) w := by
 unfold execOp
 simp only [ho, hx, hy, Sem.run_bind]
 have hg : (eqGuard .add t x y (.int k p) (.int k q)).run P w = .ok () w := by rfl
 have hb : (binOp .add t (.int k p) (.int k q)).run P w = .ok (.int k z) w := by
  simp only [binOp, Op.intArith, hz, ne_eq, not_true_eq_false, if_false]
  rfl
 rw [hg]
 simp only [Result.andThen_ok, hb]
 rfl
theorem ex_subk (w : World) (t t2 : Nat) (x y : Operand) (ho : o.op = .binOp .sub t x y t2) (k : IntKind) (p q : Int) (hx : a.eval x = .int k p) (hy : a.eval y = .int k q) (z : Int) (hz : k.wrap (p - q) = z) :
  (execOp a.eval o).run P w = .ok (.value (.int k z)) w := by
 unfold execOp
 simp only [ho, hx, hy, Sem.run_bind]
 have hg : (eqGuard .sub t x y (.int k p) (.int k q)).run P w = .ok () w := by rfl
 have hb : (binOp .sub t (.int k p) (.int k q)).run P w = .ok (.int k z) w := by
  simp only [binOp, Op.intArith, hz, ne_eq, not_true_eq_false, if_false]
  rfl
 rw [hg]
 simp only [Result.andThen_ok, hb]
 rfl
end
theorem w32 {z : Int} (h : -2147483648 ≤ z ∧ z ≤ 2147483647) : IntKind.i32.wrap z = z := by
 rw [IntKind.wrap_i32]
 omega
theorem w64 {z : Int} (h : -9223372036854775808 ≤ z ∧ z ≤ 9223372036854775807) : IntKind.i64.wrap z = z := by
 rw [IntKind.wrap_i64]
 omega
structure Fo where
 f : Int
 t : Int
 n : Int
def fcl (l : List Fo) : List Value := l.flatMap fun x => [.int .i32 x.f, .int .i32 x.t, .int .i64 x.n]
theorem fcl_len (l : List Fo) : (fcl l).length = l.length * 3 := by
 induction l with
 | nil => rfl
 | cons x l ih =>
  show ([_, _, _] ++ fcl l).length = _
  rw [List.length_append, ih]
  simp only [List.length_cons, List.length_nil]
  omega
theorem fcl_get : ∀ (l : List Fo) (k : Nat) (x : Fo), l[k]? = some x → (fcl l)[k * 3]? = some (.int .i32 x.f) ∧ (fcl l)[k * 3 + 1]? = some (.int .i32 x.t) ∧ (fcl l)[k * 3 + 2]? = some (.int .i64 x.n)
 | y :: l, 0, x, h => by
  injection h with h
  subst h
  exact ⟨rfl, rfl, rfl⟩
 | y :: l, k + 1, x, h => by
  have ih := fcl_get l k x h
  have e : fcl (y :: l) = [.int .i32 y.f, .int .i32 y.t, .int .i64 y.n] ++ fcl l := rfl
  have hl : [(.int .i32 y.f : Value), .int .i32 y.t, .int .i64 y.n].length = 3 := rfl
  rw [e, List.getElem?_append_right (by rw [hl]; omega), List.getElem?_append_right (by rw [hl]; omega), List.getElem?_append_right (by rw [hl]; omega), hl]
  have e1 : (k + 1) * 3 - 3 = k * 3 := by omega
  have e2 : (k + 1) * 3 + 1 - 3 = k * 3 + 1 := by omega
  have e3 : (k + 1) * 3 + 2 - 3 = k * 3 + 2 := by omega
  rw [e1, e2, e3]
  exact ih
def Fr (w : World) (v : Value) (l : List Fo) : Prop := ∃ A c, v = .slice A l.length c ∧ (l = [] ∨ ∃ g o, A = some ⟨g, o, none⟩ ∧ w.rangeAt g o (fcl l))
theorem Fr.keep {w w' : World} {v : Value} {l : List Fo} (h : Fr w v l) (hk : KZ w w') : Fr w' v l := by
 obtain ⟨A, c, rfl, h⟩ := h
 refine ⟨A, c, rfl, ?_⟩
 rcases h with h | ⟨g, o, rfl, hr⟩
 ·exact .inl h
 ·by_cases h0 : l = []
  ·exact .inl h0
  ·refine .inr ⟨g, o, rfl, rangeAt_keep hr (hk.block g (rangeAt_lt hr (fun e => h0 ?_)) id)⟩
   have := congrArg List.length e
   rw [fcl_len] at this
   have : l.length * 3 = 0 := this
   exact List.eq_nil_of_length_eq_zero (by omega)
theorem Fr.cells {w : World} {A : Option Addr} {n c : Nat} {l : List Fo} (h : Fr w (.slice A n c) l) {k : Nat} {x : Fo} (hx : l[k]? = some x) : ∃ g o, A = some ⟨g, o, none⟩ ∧ w.cell? ⟨g, o + k * 3, none⟩ = some (.int .i32 x.f) ∧ w.cell? ⟨g, o + k * 3 + 1, none⟩ = some (.int .i32 x.t) ∧ w.cell? ⟨g, o + k * 3 + 2, none⟩ = some (.int .i64 x.n) := by
 obtain ⟨A', c', e, h⟩ := h
 injection e with e1 e2 e3
 subst e1
 rcases h with rfl | ⟨g, o, rfl, hr⟩
 ·simp at hx
 ·obtain ⟨h1, h2, h3⟩ := fcl_get l k x hx
  exact ⟨g, o, rfl, hr _ _ h1, hr _ _ h2, hr _ _ h3⟩
def hit (r : Int) (x : Fo) : Bool := decide (x.f ≤ r ∧ r - x.f < x.n)
def fidx (l : List Fo) (r : Int) : Option Nat := l.findIdx? (hit r)
def Fok (l : List Fo) : Prop := ∀ x ∈ l, (1 ≤ x.n ∧ x.n ≤ 256) ∧ (48 ≤ x.f ∧ x.f ≤ 1279) ∧ (48 ≤ x.t ∧ x.t ≤ 1279)
theorem fidx_some {l : List Fo} {r : Int} {k : Nat} {x : Fo} (hx : l[k]? = some x) (h1 : ∀ j y, j < k → l[j]? = some y → hit r y = false) (h2 : hit r x = true) : fidx l r = some k := by
 unfold fidx
 obtain ⟨hk, rfl⟩ := List.getElem?_eq_some_iff.1 hx
 rw [List.findIdx?_eq_some_iff_getElem]
 exact ⟨hk, h2, fun j hj => by rw [h1 j _ hj (List.getElem?_eq_getElem (by omega))]; simp⟩
theorem fidx_none {l : List Fo} {r : Int} (h1 : ∀ j y, j < l.length → l[j]? = some y → hit r y = false) : fidx l r = none := by
 unfold fidx
 rw [List.findIdx?_eq_none_iff]
 intro x hx
 obtain ⟨j, hj, rfl⟩ := List.getElem_of_mem hx
 exact h1 j _ hj (List.getElem?_eq_getElem hj)
theorem fidx_hit {l : List Fo} {r : Int} {k : Nat} (h : fidx l r = some k) : ∃ x, l[k]? = some x ∧ hit r x = true := by
 unfold fidx at h
 rw [List.findIdx?_eq_some_iff_getElem] at h
 obtain ⟨hk, h2, _⟩ := h
 exact ⟨_, List.getElem?_eq_getElem hk, h2⟩
def Miss (l : List Fo) (r : Int) (k : Nat) : Prop := ∀ j y, j < k → l[j]? = some y → hit r y = false
theorem Miss.next {l : List Fo} {r : Int} {k : Nat} {x : Fo} (h : Miss l r k) (hx : l[k]? = some x) (h2 : hit r x = false) : Miss l r (k + 1) := fun j y hj hy => by
 by_cases e : j = k
 ·subst e; rw [hx] at hy; cases hy; exact h2
 ·exact h j y (by omega) hy
set_option maxHeartbeats 2000000 in
theorem folds_at {w : World} {A : Option Addr} {c : Nat} (l : List Fo) (r : Int) (hr : r ≤ 2147483647) (hl : l.length ≤ 1000000000) (hF : Fr w (.slice A l.length c) l) (hok : Fok l) :
  Calls Tryz.prog 133 #[.slice A l.length c, .int .i32 r] w fun e w' => ((fidx l r = none ∧ e = .returned (.pointer none)) ∨ (∃ k g o, fidx l r = some k ∧ A = some ⟨g, o, none⟩ ∧ e = .returned (.pointer (some ⟨g, o + k * 3, none⟩)))) ∧ KZ w w' := by
 have HF := Hd.mk hF
 have Hok := Hd.mk hok
 have Hr := Hd.mk hr
 obtain ⟨n, hn⟩ : ∃ n, l.length = n := ⟨_, rfl⟩
 rw [hn] at hl HF ⊢
 have hn := Hd.mk hn
 clear hF hok hr
 go_enter Tryz.func133, Tryz.ntmps133
 go_wp2_with fail
 go_loopw [9] (fun v9 wr => ∃ k : Nat, v9 = .int .i64 k ∧ k ≤ n ∧ Hd (KZ w wr ∧ Miss l r k)) (fun v9 _ => n - (intOf v9).toNat)
 case atStart => exact ⟨0, rfl, Nat.zero_le _, ⟨Kp.refl _ _, fun j y hj _ => absurd hj (Nat.not_lt_zero _)⟩⟩
 case round =>
  obtain ⟨k, rfl, hk, HK⟩ := hrel
  have hkb : (k : Int) + 1 ≤ 1000000001 := by omega
  by_cases h1 : k < n
  ·have hltI : (k : Int) < (n : Int) := by omega
   obtain ⟨x, hx⟩ : ∃ x, l[k]? = some x := ⟨_, List.getElem?_eq_getElem (by rw [hn.out]; exact h1)⟩
   obtain ⟨g, o, rfl, c1, c2, c3⟩ := (HF.out.keep HK.out.1).cells hx
   obtain ⟨⟨o1, o2⟩, ⟨o3, o4⟩, _⟩ := Hok.out x (List.mem_of_getElem? hx)
   have hx := Hd.mk hx
   obtain ⟨f, t, m⟩ := x
   simp only at c1 c2 c3 o1 o2 o3 o4
   have hS : Hd ((fun W : World => W.cell? ⟨g, o + k * 3, none⟩ = some (.int .i32 f) ∧ W.cell? ⟨g, o + k * 3 + 2, none⟩ = some (.int .i64 m)) wr.drew) := ⟨⟨c1, c3⟩⟩
   clear c1 c2 c3
   by_cases h2 : f ≤ r
   ·have hz : Hd (IntKind.i32.wrap (r - f) = r - f) := ⟨w32 (by have := Hr.out; omega)⟩
    have hm : Hd (IntKind.i32.wrap m = m) := ⟨w32 (by omega)⟩
    have h2B : Hd (decide (f ≤ r) = true) := ⟨decide_eq_true h2⟩
    by_cases h3 : r - f < m
    ·have h3B : Hd (decide (r - f < m) = true) := ⟨decide_eq_true h3⟩
     have hh : Hd (hit r ⟨f, t, m⟩ = true) := ⟨decide_eq_true ⟨h2, h3⟩⟩
     clear h2 h3
     go_wp2_with fail
     refine rn_begin (fun W : World => W.cell? ⟨g, o + k * 3, none⟩ = some (.int .i32 f) ∧ W.cell? ⟨g, o + k * 3 + 2, none⟩ = some (.int .i64 m)) (List.range 20) (by kernel_rfl) ?_
     refine rnA 0 15 (.int .i32 r) (rnM rfl rfl) hS.out ?_
     refine rnA 1 16 (.pointer (some ⟨g, o + k * 3, none⟩)) (rnM rfl rfl) hS.out ?_
     simp only [Act.put, uA, uB, uC]
     refine rnA 2 17 (.pointer (some ⟨g, o + k * 3, none⟩)) (fun W hW => ex_nilCheck W _ _ rfl rfl) hS.out ?_
     refine rnA 3 18 (.pointer (some ⟨g, o + k * 3, none⟩)) (erF 100 0 _ rfl g (o + k * 3) 0 0 (o + k * 3) Tryz.underlying100 rfl) hS.out ?_
     simp only [Act.put, uA, uB, uC]
     refine rnA 4 19 (.int .i32 f) (fun W hW => ex_load W 21 _ _ rfl ⟨g, o + k * 3, none⟩ U21 rfl rfl (hW.1)) hS.out ?_
     refine rnA 5 20 (.bool true) (fun W hW => ex_geq W 21 _ _ _ rfl .i32 r f rfl rfl true (h2B.out)) hS.out ?_
     simp only [Act.put, uA, uB, uC]
     refine rnA 6 21 (.bool true) (rnM rfl rfl) hS.out ?_
     refine rnA 7 22 (.int .i32 r) (rnM rfl rfl) hS.out ?_
     simp only [Act.put, uA, uB, uC]
     refine rnA 8 23 (.pointer (some ⟨g, o + k * 3, none⟩)) (rnM rfl rfl) hS.out ?_
     refine rnA 9 24 (.pointer (some ⟨g, o + k * 3, none⟩)) (fun W hW => ex_nilCheck W _ _ rfl rfl) hS.out ?_
     simp only [Act.put, uA, uB, uC]
     refine rnA 10 25 (.pointer (some ⟨g, o + k * 3, none⟩)) (erF 100 0 _ rfl g (o + k * 3) 0 0 (o + k * 3) Tryz.underlying100 rfl) hS.out ?_
     refine rnA 11 26 (.int .i32 f) (fun W hW => ex_load W 21 _ _ rfl ⟨g, o + k * 3, none⟩ U21 rfl rfl (hW.1)) hS.out ?_
     simp only [Act.put, uA, uB, uC]
     refine rnA 12 27 (.int .i32 (r - f)) (fun W hW => ex_subk W 21 21 _ _ rfl .i32 r f rfl rfl (r - f) hz.out) hS.out ?_
     refine rnA 13 28 (.pointer (some ⟨g, o + k * 3, none⟩)) (rnM rfl rfl) hS.out ?_
     simp only [Act.put, uA, uB, uC]
     refine rnA 14 29 (.pointer (some ⟨g, o + k * 3, none⟩)) (fun W hW => ex_nilCheck W _ _ rfl rfl) hS.out ?_
     refine rnA 15 30 (.pointer (some ⟨g, o + k * 3 + 2, none⟩)) (erF 100 2 _ rfl g (o + k * 3) 0 2 (o + k * 3 + 2) Tryz.underlying100 rfl) hS.out ?_
     simp only [Act.put, uA, uB, uC]
     refine rnA 16 31 (.int .i64 (m)) (fun W hW => ex_load W 3 _ _ rfl ⟨g, o + k * 3 + 2, none⟩ U3 rfl rfl (hW.2)) hS.out ?_
     refine rnA 17 32 (.int .i32 m) (fun W hW => ex_convz W 3 21 _ rfl (by kernel_rfl) .i32 U21 .i64 m m rfl hm.out) hS.out ?_
     simp only [Act.put, uA, uB, uC]
     refine rnA 18 33 (.bool true) (fun W hW => ex_lss W 21 _ _ _ rfl .i32 (r - f) m rfl rfl true (h3B.out)) hS.out ?_
     refine rnA 19 34 (.bool true) (fun W hW => ex_pick W _ _ _ rfl true _ rfl rfl) hS.out ?_
     simp only [Act.put, uA, uB, uC]
     refine rn_done (by kernel_rfl) ?_ _
     clear hS
     go_wp2_with fail
     go_ret
     exact ⟨.inr ⟨k, g, o, fidx_some hx.out HK.out.2 hh.out, rfl, rfl⟩, HK.out.1.drew⟩
    ·have h3B : Hd (decide (r - f < m) = false) := ⟨decide_eq_false h3⟩
     have hh : Hd (hit r ⟨f, t, m⟩ = false) := ⟨decide_eq_false (fun h => h3 h.2)⟩
     clear h2 h3
     go_wp2_with fail
     refine rn_begin (fun W : World => W.cell? ⟨g, o + k * 3, none⟩ = some (.int .i32 f) ∧ W.cell? ⟨g, o + k * 3 + 2, none⟩ = some (.int .i64 m)) (List.range 20) (by kernel_rfl) ?_
     refine rnA 0 15 (.int .i32 r) (rnM rfl rfl) hS.out ?_
     refine rnA 1 16 (.pointer (some ⟨g, o + k * 3, none⟩)) (rnM rfl rfl) hS.out ?_
     simp only [Act.put, uA, uB, uC]
     refine rnA 2 17 (.pointer (some ⟨g, o + k * 3, none⟩)) (fun W hW => ex_nilCheck W _ _ rfl rfl) hS.out ?_
     refine rnA 3 18 (.pointer (some ⟨g, o + k * 3, none⟩)) (erF 100 0 _ rfl g (o + k * 3) 0 0 (o + k * 3) Tryz.underlying100 rfl) hS.out ?_
     simp only [Act.put, uA, uB, uC]
     refine rnA 4 19 (.int .i32 f) (fun W hW => ex_load W 21 _ _ rfl ⟨g, o + k * 3, none⟩ U21 rfl rfl (hW.1)) hS.out ?_
     refine rnA 5 20 (.bool true) (fun W hW => ex_geq W 21 _ _ _ rfl .i32 r f rfl rfl true (h2B.out)) hS.out ?_
     simp only [Act.put, uA, uB, uC]
     refine rnA 6 21 (.bool true) (rnM rfl rfl) hS.out ?_
     refine rnA 7 22 (.int .i32 r) (rnM rfl rfl) hS.out ?_
     simp only [Act.put, uA, uB, uC]
     refine rnA 8 23 (.pointer (some ⟨g, o + k * 3, none⟩)) (rnM rfl rfl) hS.out ?_
     refine rnA 9 24 (.pointer (some ⟨g, o + k * 3, none⟩)) (fun W hW => ex_nilCheck W _ _ rfl rfl) hS.out ?_
     simp only [Act.put, uA, uB, uC]
     refine rnA 10 25 (.pointer (some ⟨g, o + k * 3, none⟩)) (erF 100 0 _ rfl g (o + k * 3) 0 0 (o + k * 3) Tryz.underlying100 rfl) hS.out ?_
     refine rnA 11 26 (.int .i32 f) (fun W hW => ex_load W 21 _ _ rfl ⟨g, o + k * 3, none⟩ U21 rfl rfl (hW.1)) hS.out ?_
     simp only [Act.put, uA, uB, uC]
     refine rnA 12 27 (.int .i32 (r - f)) (fun W hW => ex_subk W 21 21 _ _ rfl .i32 r f rfl rfl (r - f) hz.out) hS.out ?_
     refine rnA 13 28 (.pointer (some ⟨g, o + k * 3, none⟩)) (rnM rfl rfl) hS.out ?_
     simp only [Act.put, uA, uB, uC]
     refine rnA 14 29 (.pointer (some ⟨g, o + k * 3, none⟩)) (fun W hW => ex_nilCheck W _ _ rfl rfl) hS.out ?_
     refine rnA 15 30 (.pointer (some ⟨g, o + k * 3 + 2, none⟩)) (erF 100 2 _ rfl g (o + k * 3) 0 2 (o + k * 3 + 2) Tryz.underlying100 rfl) hS.out ?_
     simp only [Act.put, uA, uB, uC]
     refine rnA 16 31 (.int .i64 (m)) (fun W hW => ex_load W 3 _ _ rfl ⟨g, o + k * 3 + 2, none⟩ U3 rfl rfl (hW.2)) hS.out ?_
     refine rnA 17 32 (.int .i32 m) (fun W hW => ex_convz W 3 21 _ rfl (by kernel_rfl) .i32 U21 .i64 m m rfl hm.out) hS.out ?_
     simp only [Act.put, uA, uB, uC]
     refine rnA 18 33 (.bool false) (fun W hW => ex_lss W 21 _ _ _ rfl .i32 (r - f) m rfl rfl false (h3B.out)) hS.out ?_
     refine rnA 19 34 (.bool false) (fun W hW => ex_pick W _ _ _ rfl true _ rfl rfl) hS.out ?_
     simp only [Act.put, uA, uB, uC]
     refine rn_done (by kernel_rfl) ?_ _
     clear hS
     go_wp2_with fail
     exact ⟨⟨k + 1, by go_num, by omega, ⟨HK.out.1.drew, HK.out.2.next hx.out hh.out⟩⟩, by simp [intOf]; omega⟩
   ·have h2B : Hd (decide (f ≤ r) = false) := ⟨decide_eq_false h2⟩
    have hh : Hd (hit r ⟨f, t, m⟩ = false) := ⟨decide_eq_false (fun h => h2 h.1)⟩
    clear h2
    go_wp2_with fail
    refine rn_begin (fun W : World => W.cell? ⟨g, o + k * 3, none⟩ = some (.int .i32 f) ∧ W.cell? ⟨g, o + k * 3 + 2, none⟩ = some (.int .i64 m)) (List.range 20) (by kernel_rfl) ?_
    refine rnA 0 15 (.int .i32 r) (rnM rfl rfl) hS.out ?_
    refine rnA 1 16 (.pointer (some ⟨g, o + k * 3, none⟩)) (rnM rfl rfl) hS.out ?_
    simp only [Act.put, uA, uB, uC]
    refine rnA 2 17 (.pointer (some ⟨g, o + k * 3, none⟩)) (fun W hW => ex_nilCheck W _ _ rfl rfl) hS.out ?_
    refine rnA 3 18 (.pointer (some ⟨g, o + k * 3, none⟩)) (erF 100 0 _ rfl g (o + k * 3) 0 0 (o + k * 3) Tryz.underlying100 rfl) hS.out ?_
    simp only [Act.put, uA, uB, uC]
    refine rnA 4 19 (.int .i32 f) (fun W hW => ex_load W 21 _ _ rfl ⟨g, o + k * 3, none⟩ U21 rfl rfl (hW.1)) hS.out ?_
    refine rnA 5 20 (.bool false) (fun W hW => ex_geq W 21 _ _ _ rfl .i32 r f rfl rfl false (h2B.out)) hS.out ?_
    simp only [Act.put, uA, uB, uC]
    refine rnA 6 21 (.bool false) (rnM rfl rfl) hS.out ?_
    refine rnP 7 22 hS.out ?_
    simp only [Act.put, uA, uB, uC]
    refine rnP 8 23 hS.out ?_
    refine rnP 9 24 hS.out ?_
    simp only [Act.put, uA, uB, uC]
    refine rnP 10 25 hS.out ?_
    refine rnP 11 26 hS.out ?_
    simp only [Act.put, uA, uB, uC]
    refine rnP 12 27 hS.out ?_
    refine rnP 13 28 hS.out ?_
    simp only [Act.put, uA, uB, uC]
    refine rnP 14 29 hS.out ?_
    refine rnP 15 30 hS.out ?_
    simp only [Act.put, uA, uB, uC]
    refine rnP 16 31 hS.out ?_
    refine rnP 17 32 hS.out ?_
    simp only [Act.put, uA, uB, uC]
    refine rnP 18 33 hS.out ?_
    refine rnA 19 34 (.bool false) (fun W hW => ex_pick W _ _ _ rfl false _ rfl rfl) hS.out ?_
    simp only [Act.put, uA, uB, uC]
    refine rn_done (by kernel_rfl) ?_ _
    clear hS
    go_wp2_with fail
    exact ⟨⟨k + 1, by go_num, by omega, ⟨HK.out.1.drew, HK.out.2.next hx.out hh.out⟩⟩, by simp [intOf]; omega⟩
  ·have hltI : ¬ (k : Int) < (n : Int) := by omega
   go_wp2_with fail
   go_ret
   refine ⟨.inl ⟨fidx_none (fun j y hj hy => HK.out.2 j y (by have := hn.out; omega) hy), rfl⟩, HK.out.1⟩
set_option maxHeartbeats 2000000 in
theorem rfolds_at {w : World} {A : Option Addr} {c : Nat} (l : List Fo) (r : Int) (hr : -2147483648 ≤ r ∧ r ≤ 2147483647) (hl : l.length ≤ 1000000000) (hF : Fr w (.slice A l.length c) l) (hok : Fok l) :
  Calls Tryz.prog 151 #[.slice A l.length c, .int .i32 r] w fun e w' => ((fidx l r = none ∧ e = .returned (.int .i64 (-1))) ∨ (∃ k : Nat, fidx l r = some k ∧ e = .returned (.int .i64 (k : Int)))) ∧ KZ w w' := by
 have HF := Hd.mk hF
 have Hok := Hd.mk hok
 have Hr := Hd.mk hr
 obtain ⟨n, hn⟩ : ∃ n, l.length = n := ⟨_, rfl⟩
 rw [hn] at hl HF ⊢
 have hn := Hd.mk hn
 clear hF hok hr
 go_enter Tryz.func151, Tryz.ntmps151
 go_wp2_with fail
 go_loopw [5] (fun v9 wr => ∃ k : Nat, v9 = .int .i64 k ∧ k ≤ n ∧ Hd (KZ w wr ∧ Miss l r k)) (fun v9 _ => n - (intOf v9).toNat)
 case atStart => exact ⟨0, rfl, Nat.zero_le _, ⟨Kp.refl _ _, fun j y hj _ => absurd hj (Nat.not_lt_zero _)⟩⟩
 case round =>
  obtain ⟨k, rfl, hk, HK⟩ := hrel
  have hkb : (k : Int) + 1 ≤ 1000000001 := by omega
  by_cases h1 : k < n
  ·have hltI : (k : Int) < (n : Int) := by omega
   obtain ⟨x, hx⟩ : ∃ x, l[k]? = some x := ⟨_, List.getElem?_eq_getElem (by rw [hn.out]; exact h1)⟩
   obtain ⟨g, o, rfl, c1, c2, c3⟩ := (HF.out.keep HK.out.1).cells hx
   obtain ⟨⟨o1, o2⟩, ⟨o3, o4⟩, _⟩ := Hok.out x (List.mem_of_getElem? hx)
   have hx := Hd.mk hx
   obtain ⟨f, t, m⟩ := x
   simp only at c1 c2 c3 o1 o2 o3 o4
   have hS : Hd ((fun W : World => W.cell? ⟨g, o + k * 3, none⟩ = some (.int .i32 f) ∧ W.cell? ⟨g, o + k * 3 + 2, none⟩ = some (.int .i64 m)) wr.drew) := ⟨⟨c1, c3⟩⟩
   clear c1 c2 c3
   by_cases h2 : f ≤ r
   ·have hz : Hd (IntKind.i64.wrap (r - f) = r - f) := ⟨w64 (by have := Hr.out; omega)⟩
    have hw1 : Hd (IntKind.i64.wrap r = r) := ⟨w64 (by have := Hr.out; omega)⟩
    have hw2 : Hd (IntKind.i64.wrap f = f) := ⟨w64 (by omega)⟩
    have h2B : Hd (decide (f ≤ r) = true) := ⟨decide_eq_true h2⟩
    by_cases h3 : r - f < m
    ·have h3B : Hd (decide (r - f < m) = true) := ⟨decide_eq_true h3⟩
     have hh : Hd (hit r ⟨f, t, m⟩ = true) := ⟨decide_eq_true ⟨h2, h3⟩⟩
     clear h2 h3
     go_wp2_with fail
     refine rn_begin (fun W : World => W.cell? ⟨g, o + k * 3, none⟩ = some (.int .i32 f) ∧ W.cell? ⟨g, o + k * 3 + 2, none⟩ = some (.int .i64 m)) (List.range 24) (by kernel_rfl) ?_
     refine rnA 0 12 (.int .i32 r) (rnM rfl rfl) hS.out ?_
     refine rnA 1 13 (.slice (some ⟨g, o, none⟩) n c) (rnM rfl rfl) hS.out ?_
     simp only [Act.put, uA, uB, uC]
     refine rnA 2 14 (.int .i64 ((k : Nat) : Int)) (rnM rfl rfl) hS.out ?_
     refine rnA 3 15 (.pointer (some ⟨g, o + k * 3, none⟩)) (erI 47 100 _ _ rfl 3 k U47 g o _ _ (o + k * 3)) hS.out ?_
     simp only [Act.put, uA, uB, uC]
     refine rnA 4 16 (.pointer (some ⟨g, o + k * 3, none⟩)) (erF 100 0 _ rfl g (o + k * 3) 0 0 (o + k * 3) Tryz.underlying100 rfl) hS.out ?_
     refine rnA 5 17 (.int .i32 f) (fun W hW => ex_load W 21 _ _ rfl ⟨g, o + k * 3, none⟩ U21 rfl rfl (hW.1)) hS.out ?_
     simp only [Act.put, uA, uB, uC]
     refine rnA 6 18 (.bool true) (fun W hW => ex_geq W 21 _ _ _ rfl .i32 r f rfl rfl true (h2B.out)) hS.out ?_
     refine rnA 7 19 (.bool true) (rnM rfl rfl) hS.out ?_
     simp only [Act.put, uA, uB, uC]
     refine rnA 8 20 (.int .i32 r) (rnM rfl rfl) hS.out ?_
     refine rnA 9 21 (.int .i64 (r)) (fun W hW => ex_convz W 21 3 _ rfl (by kernel_rfl) .i64 U3 .i32 r r rfl hw1.out) hS.out ?_
     simp only [Act.put, uA, uB, uC]
     refine rnA 10 22 (.slice (some ⟨g, o, none⟩) n c) (rnM rfl rfl) hS.out ?_
     refine rnA 11 23 (.int .i64 ((k : Nat) : Int)) (rnM rfl rfl) hS.out ?_
     simp only [Act.put, uA, uB, uC]
     refine rnA 12 24 (.pointer (some ⟨g, o + k * 3, none⟩)) (erI 47 100 _ _ rfl 3 k U47 g o _ _ (o + k * 3)) hS.out ?_
     refine rnA 13 25 (.pointer (some ⟨g, o + k * 3, none⟩)) (erF 100 0 _ rfl g (o + k * 3) 0 0 (o + k * 3) Tryz.underlying100 rfl) hS.out ?_
     simp only [Act.put, uA, uB, uC]
     refine rnA 14 26 (.int .i32 f) (fun W hW => ex_load W 21 _ _ rfl ⟨g, o + k * 3, none⟩ U21 rfl rfl (hW.1)) hS.out ?_
     refine rnA 15 27 (.int .i64 (f)) (fun W hW => ex_convz W 21 3 _ rfl (by kernel_rfl) .i64 U3 .i32 f f rfl hw2.out) hS.out ?_
     simp only [Act.put, uA, uB, uC]
     refine rnA 16 28 (.int .i64 (r - f)) (fun W hW => ex_subk W 3 3 _ _ rfl .i64 r f rfl rfl (r - f) hz.out) hS.out ?_
     refine rnA 17 29 (.slice (some ⟨g, o, none⟩) n c) (rnM rfl rfl) hS.out ?_
     simp only [Act.put, uA, uB, uC]
     refine rnA 18 30 (.int .i64 ((k : Nat) : Int)) (rnM rfl rfl) hS.out ?_
     refine rnA 19 31 (.pointer (some ⟨g, o + k * 3, none⟩)) (erI 47 100 _ _ rfl 3 k U47 g o _ _ (o + k * 3)) hS.out ?_
     simp only [Act.put, uA, uB, uC]
     refine rnA 20 32 (.pointer (some ⟨g, o + k * 3 + 2, none⟩)) (erF 100 2 _ rfl g (o + k * 3) 0 2 (o + k * 3 + 2) Tryz.underlying100 rfl) hS.out ?_
     refine rnA 21 33 (.int .i64 (m)) (fun W hW => ex_load W 3 _ _ rfl ⟨g, o + k * 3 + 2, none⟩ U3 rfl rfl (hW.2)) hS.out ?_
     simp only [Act.put, uA, uB, uC]
     refine rnA 22 34 (.bool true) (fun W hW => ex_lss W 3 _ _ _ rfl .i64 (r - f) m rfl rfl true (h3B.out)) hS.out ?_
     refine rnA 23 35 (.bool true) (fun W hW => ex_pick W _ _ _ rfl true _ rfl rfl) hS.out ?_
     simp only [Act.put, uA, uB, uC]
     refine rn_done (by kernel_rfl) ?_ _
     clear hS
     go_wp2_with fail
     go_ret
     exact ⟨.inr ⟨k, fidx_some hx.out HK.out.2 hh.out, rfl⟩, HK.out.1.drew⟩
    ·have h3B : Hd (decide (r - f < m) = false) := ⟨decide_eq_false h3⟩
     have hh : Hd (hit r ⟨f, t, m⟩ = false) := ⟨decide_eq_false (fun h => h3 h.2)⟩
     clear h2 h3
     go_wp2_with fail
     refine rn_begin (fun W : World => W.cell? ⟨g, o + k * 3, none⟩ = some (.int .i32 f) ∧ W.cell? ⟨g, o + k * 3 + 2, none⟩ = some (.int .i64 m)) (List.range 24) (by kernel_rfl) ?_
     refine rnA 0 12 (.int .i32 r) (rnM rfl rfl) hS.out ?_
     refine rnA 1 13 (.slice (some ⟨g, o, none⟩) n c) (rnM rfl rfl) hS.out ?_
     simp only [Act.put, uA, uB, uC]
     refine rnA 2 14 (.int .i64 ((k : Nat) : Int)) (rnM rfl rfl) hS.out ?_
     refine rnA 3 15 (.pointer (some ⟨g, o + k * 3, none⟩)) (erI 47 100 _ _ rfl 3 k U47 g o _ _ (o + k * 3)) hS.out ?_
     simp only [Act.put, uA, uB, uC]
     refine rnA 4 16 (.pointer (some ⟨g, o + k * 3, none⟩)) (erF 100 0 _ rfl g (o + k * 3) 0 0 (o + k * 3) Tryz.underlying100 rfl) hS.out ?_
     refine rnA 5 17 (.int .i32 f) (fun W hW => ex_load W 21 _ _ rfl ⟨g, o + k * 3, none⟩ U21 rfl rfl (hW.1)) hS.out ?_
     simp only [Act.put, uA, uB, uC]
     refine rnA 6 18 (.bool true) (fun W hW => ex_geq W 21 _ _ _ rfl .i32 r f rfl rfl true (h2B.out)) hS.out ?_
     refine rnA 7 19 (.bool true) (rnM rfl rfl) hS.out ?_
     simp only [Act.put, uA, uB, uC]
     refine rnA 8 20 (.int .i32 r) (rnM rfl rfl) hS.out ?_
     refine rnA 9 21 (.int .i64 (r)) (fun W hW => ex_convz W 21 3 _ rfl (by kernel_rfl) .i64 U3 .i32 r r rfl hw1.out) hS.out ?_
     simp only [Act.put, uA, uB, uC]
     refine rnA 10 22 (.slice (some ⟨g, o, none⟩) n c) (rnM rfl rfl) hS.out ?_
     refine rnA 11 23 (.int .i64 ((k : Nat) : Int)) (rnM rfl rfl) hS.out ?_
     simp only [Act.put, uA, uB, uC]
     refine rnA 12 24 (.pointer (some ⟨g, o + k * 3, none⟩)) (erI 47 100 _ _ rfl 3 k U47 g o _ _ (o + k * 3)) hS.out ?_
     refine rnA 13 25 (.pointer (some ⟨g, o + k * 3, none⟩)) (erF 100 0 _ rfl g (o + k * 3) 0 0 (o + k * 3) Tryz.underlying100 rfl) hS.out ?_
     simp only [Act.put, uA, uB, uC]
     refine rnA 14 26 (.int .i32 f) (fun W hW => ex_load W 21 _ _ rfl ⟨g, o + k * 3, none⟩ U21 rfl rfl (hW.1)) hS.out ?_
     refine rnA 15 27 (.int .i64 (f)) (fun W hW => ex_convz W 21 3 _ rfl (by kernel_rfl) .i64 U3 .i32 f f rfl hw2.out) hS.out ?_
     simp only [Act.put, uA, uB, uC]
     refine rnA 16 28 (.int .i64 (r - f)) (fun W hW => ex_subk W 3 3 _ _ rfl .i64 r f rfl rfl (r - f) hz.out) hS.out ?_
     refine rnA 17 29 (.slice (some ⟨g, o, none⟩) n c) (rnM rfl rfl) hS.out ?_
     simp only [Act.put, uA, uB, uC]
     refine rnA 18 30 (.int .i64 ((k : Nat) : Int)) (rnM rfl rfl) hS.out ?_
     refine rnA 19 31 (.pointer (some ⟨g, o + k * 3, none⟩)) (erI 47 100 _ _ rfl 3 k U47 g o _ _ (o + k * 3)) hS.out ?_
     simp only [Act.put, uA, uB, uC]
     refine rnA 20 32 (.pointer (some ⟨g, o + k * 3 + 2, none⟩)) (erF 100 2 _ rfl g (o + k * 3) 0 2 (o + k * 3 + 2) Tryz.underlying100 rfl) hS.out ?_
     refine rnA 21 33 (.int .i64 (m)) (fun W hW => ex_load W 3 _ _ rfl ⟨g, o + k * 3 + 2, none⟩ U3 rfl rfl (hW.2)) hS.out ?_
     simp only [Act.put, uA, uB, uC]
     refine rnA 22 34 (.bool false) (fun W hW => ex_lss W 3 _ _ _ rfl .i64 (r - f) m rfl rfl false (h3B.out)) hS.out ?_
     refine rnA 23 35 (.bool false) (fun W hW => ex_pick W _ _ _ rfl true _ rfl rfl) hS.out ?_
     simp only [Act.put, uA, uB, uC]
     refine rn_done (by kernel_rfl) ?_ _
     clear hS
     go_wp2_with fail
     exact ⟨⟨k + 1, by go_num, by omega, ⟨HK.out.1.drew, HK.out.2.next hx.out hh.out⟩⟩, by simp [intOf]; omega⟩
   ·have h2B : Hd (decide (f ≤ r) = false) := ⟨decide_eq_false h2⟩
    have hh : Hd (hit r ⟨f, t, m⟩ = false) := ⟨decide_eq_false (fun h => h2 h.1)⟩
    clear h2
    go_wp2_with fail
    refine rn_begin (fun W : World => W.cell? ⟨g, o + k * 3, none⟩ = some (.int .i32 f) ∧ W.cell? ⟨g, o + k * 3 + 2, none⟩ = some (.int .i64 m)) (List.range 24) (by kernel_rfl) ?_
    refine rnA 0 12 (.int .i32 r) (rnM rfl rfl) hS.out ?_
    refine rnA 1 13 (.slice (some ⟨g, o, none⟩) n c) (rnM rfl rfl) hS.out ?_
    simp only [Act.put, uA, uB, uC]
    refine rnA 2 14 (.int .i64 ((k : Nat) : Int)) (rnM rfl rfl) hS.out ?_
    refine rnA 3 15 (.pointer (some ⟨g, o + k * 3, none⟩)) (erI 47 100 _ _ rfl 3 k U47 g o _ _ (o + k * 3)) hS.out ?_
    simp only [Act.put, uA, uB, uC]
    refine rnA 4 16 (.pointer (some ⟨g, o + k * 3, none⟩)) (erF 100 0 _ rfl g (o + k * 3) 0 0 (o + k * 3) Tryz.underlying100 rfl) hS.out ?_
    refine rnA 5 17 (.int .i32 f) (fun W hW => ex_load W 21 _ _ rfl ⟨g, o + k * 3, none⟩ U21 rfl rfl (hW.1)) hS.out ?_
    simp only [Act.put, uA, uB, uC]
    refine rnA 6 18 (.bool false) (fun W hW => ex_geq W 21 _ _ _ rfl .i32 r f rfl rfl false (h2B.out)) hS.out ?_
    refine rnA 7 19 (.bool false) (rnM rfl rfl) hS.out ?_
    simp only [Act.put, uA, uB, uC]
    refine rnP 8 20 hS.out ?_
    refine rnP 9 21 hS.out ?_
    simp only [Act.put, uA, uB, uC]
    refine rnP 10 22 hS.out ?_
    refine rnP 11 23 hS.out ?_
    simp only [Act.put, uA, uB, uC]
    refine rnP 12 24 hS.out ?_
    refine rnP 13 25 hS.out ?_
    simp only [Act.put, uA, uB, uC]
    refine rnP 14 26 hS.out ?_
    refine rnP 15 27 hS.out ?_
    simp only [Act.put, uA, uB, uC]
    refine rnP 16 28 hS.out ?_
    refine rnP 17 29 hS.out ?_
    simp only [Act.put, uA, uB, uC]
    refine rnP 18 30 hS.out ?_
    refine rnP 19 31 hS.out ?_
    simp only [Act.put, uA, uB, uC]
    refine rnP 20 32 hS.out ?_
    refine rnP 21 33 hS.out ?_
    simp only [Act.put, uA, uB, uC]
    refine rnP 22 34 hS.out ?_
    refine rnA 23 35 (.bool false) (fun W hW => ex_pick W _ _ _ rfl false _ rfl rfl) hS.out ?_
    simp only [Act.put, uA, uB, uC]
    refine rn_done (by kernel_rfl) ?_ _
    clear hS
    go_wp2_with fail
    exact ⟨⟨k + 1, by go_num, by omega, ⟨HK.out.1.drew, HK.out.2.next hx.out hh.out⟩⟩, by simp [intOf]; omega⟩
  ·have hltI : ¬ (k : Int) < (n : Int) := by omega
   go_wp2_with fail
   go_ret
   refine ⟨.inl ⟨fidx_none (fun j y hj hy => HK.out.2 j y (by have := hn.out; omega) hy), rfl⟩, HK.out.1⟩
end Go.Proofs.YtkcechpaeilaeaaGreatDoor
namespace Go.Proofs.YtkcechpaeilaeaaGreatDoor
open Go.RowKit
set_option maxRecDepth 20000
def Good1 (l : List Fo) (i : Nat) : Prop := ∀ x, l[i]? = some x → (1 ≤ x.n ∧ x.n ≤ 256) ∧ (∀ k : Nat, (k : Int) < x.n → lett (x.f + k) = true ∧ lett (x.t + k) = true) ∧ (∀ j y, i = j + 1 → l[j]? = some y → y.f + y.n - 1 < x.f)
def Good2 (l : List Fo) (i : Nat) : Prop := ∀ x, l[i]? = some x → ∀ k : Nat, (k : Int) < x.n → fidx l (x.t + k) = none
def fchk (l : List Fo) : Prop := l.length ≤ 8 ∧ (∀ i, i < l.length → Good1 l i) ∧ (∀ i, i < l.length → Good2 l i)
theorem Good1.bd {l : List Fo} {i : Nat} {x : Fo} (h : Good1 l i) (hx : l[i]? = some x) : (1 ≤ x.n ∧ x.n ≤ 256) ∧ (48 ≤ x.f ∧ x.f ≤ 1279) ∧ (48 ≤ x.t ∧ x.t ≤ 1279) := by
 obtain ⟨h1, h2, _⟩ := h x hx
 obtain ⟨h3, h4⟩ := h2 0 (by omega)
 have := lett_bd h3
 have := lett_bd h4
 omega
theorem fok_of {l : List Fo} (h : ∀ i, i < l.length → Good1 l i) : Fok l := fun x hx => by
 obtain ⟨i, hi, rfl⟩ := List.getElem_of_mem hx
 exact (h i hi).bd (List.getElem?_eq_getElem hi)
theorem Fr.row {w : World} {A : Option Addr} {n c : Nat} {l : List Fo} (h : Fr w (.slice A n c) l) {k : Nat} {x : Fo} (hx : l[k]? = some x) : ∃ g o, A = some ⟨g, o, none⟩ ∧ w.rangeAt g (o + k * 3) [.int .i32 x.f, .int .i32 x.t, .int .i64 x.n] := by
 obtain ⟨g, o, hA, h1, h2, h3⟩ := h.cells hx
 refine ⟨g, o, hA, fun j v hj => ?_⟩
 match j, hj with
 | 0, hj => injection hj with hj; subst hj; exact h1
 | 1, hj => injection hj with hj; subst hj; exact h2
 | 2, hj => injection hj with hj; subst hj; exact h3
theorem row3_new (w : World) (a b c : Value) (t : TypeId) : (w.alloc (.cells #[a, b, c] t)).cell? ⟨w.heap.size, 0, none⟩ = some a ∧ (w.alloc (.cells #[a, b, c] t)).cell? ⟨w.heap.size, 1, none⟩ = some b ∧ (w.alloc (.cells #[a, b, c] t)).cell? ⟨w.heap.size, 2, none⟩ = some c := by
 have h := _root_.Go.heap_alloc_new w (.cells #[a, b, c] t)
 refine ⟨?_, ?_, ?_⟩ <;> rw [Lib.cell_of_heap h] <;> rfl
theorem letter_b (r : Int) (b : Bool) (h : lett r = b) (w : World) : Calls Tryz.prog 132 #[.int .i32 r] w fun e w' => e = .returned (.bool b) ∧ w' = w := h ▸ letter_at r w
theorem zero100 (w : World) : (zeroValue 100).run Tryz.prog w = .ok (.agg ([.int .i32 0, .int .i32 0, .int .i64 0] : List Value).toArray) w := by kernel_rfl
set_option maxHeartbeats 4000000 in
theorem fcheck_at {w : World} {A : Option Addr} {c : Nat} (l : List Fo) (hwf : ∀ x ∈ l, (-2147483648 ≤ x.f ∧ x.f ≤ 2147483647) ∧ (-2147483648 ≤ x.t ∧ x.t ≤ 2147483647)) (hF : Fr w (.slice A l.length c) l) :
  Calls Tryz.prog 111 #[.slice A l.length c] w fun e w' => ((e = .returned (.int .i64 0) ∧ fchk l) ∨ (e = .returned (.int .i64 130) ∧ ¬ fchk l)) ∧ KZ w w' := by
 have HF := Hd.mk hF
 have Hwf := Hd.mk hwf
 obtain ⟨n, hn⟩ : ∃ n, l.length = n := ⟨_, rfl⟩
 rw [hn] at HF ⊢
 have hn := Hd.mk hn
 clear hF hwf
 by_cases h8 : n ≤ 8
 ·have h8I : ¬ (8 : Int) < (n : Int) := by omega
  go_enter Tryz.func111, Tryz.ntmps111
  go_wp2_with fail
  go_loopw [14] (fun v14 wr => ∃ k : Nat, v14 = .int .i64 k ∧ k ≤ n ∧ Hd (KZ w wr ∧ ∀ j, j < k → Good1 l j)) (fun v14 _ => n - (intOf v14).toNat)
  case atStart => exact ⟨0, rfl, Nat.zero_le _, ⟨Kp.refl _ _, fun j hj => absurd hj (Nat.not_lt_zero _)⟩⟩
  case round =>
   obtain ⟨k, rfl, hk, HK⟩ := hrel
   by_cases h1 : k < n
   ·have hltI : (k : Int) < (n : Int) := by omega
    obtain ⟨x, hx⟩ : ∃ x, l[k]? = some x := ⟨_, List.getElem?_eq_getElem (by rw [hn.out]; exact h1)⟩
    obtain ⟨g, o, rfl, hr⟩ := (HF.out.keep HK.out.1).row hx
    obtain ⟨⟨o1, o2⟩, o3, o4⟩ := Hwf.out x (List.mem_of_getElem? hx)
    have hx := Hd.mk hx
    obtain ⟨f, t, m⟩ := x
    simp only at hr o1 o2 o3 o4
    have hr := Hd.mk hr
    obtain ⟨d0, d1, d2⟩ := row3_new wr (.int .i32 f) (.int .i32 t) (.int .i64 m) 100
    have K1 : Hd (KZ w (wr.alloc (.cells #[.int .i32 f, .int .i32 t, .int .i64 m] 100))) := ⟨HK.out.1.alloc _⟩
    by_cases hm1 : m < 1
    ·go_wp2_with (first | (with_reducible refine wl_load_mid rfl 100 (.tmp 17) rfl g (o + k * 3) rfl [.int .i32 f, .int .i32 t, .int .i64 m] hr.out Tryz.underlying100 rfl (by kernel_rfl) ?_) | (with_reducible refine wl_alloc rfl 100 rfl [.int .i32 0, .int .i32 0, .int .i64 0] (zero100 _) ?_) | (with_reducible refine wl_store_new rfl 100 (.tmp 4) (.tmp 18) rfl [.int .i32 0, .int .i32 0, .int .i64 0] [.int .i32 f, .int .i32 t, .int .i64 m] rfl rfl (by kernel_rfl) rfl (by simp [Value.oneCell']) ?_))
     go_ret
     exact ⟨.inr ⟨rfl, fun h => by have := (h.2.1 k (by rw [hn.out]; exact h1) _ hx.out).1.1; simp only at this; omega⟩, K1.out⟩
    ·by_cases hm2 : 256 < m
     ·go_wp2_with (first | (with_reducible refine wl_load_mid rfl 100 (.tmp 17) rfl g (o + k * 3) rfl [.int .i32 f, .int .i32 t, .int .i64 m] hr.out Tryz.underlying100 rfl (by kernel_rfl) ?_) | (with_reducible refine wl_alloc rfl 100 rfl [.int .i32 0, .int .i32 0, .int .i64 0] (zero100 _) ?_) | (with_reducible refine wl_store_new rfl 100 (.tmp 4) (.tmp 18) rfl [.int .i32 0, .int .i32 0, .int .i64 0] [.int .i32 f, .int .i32 t, .int .i64 m] rfl rfl (by kernel_rfl) rfl (by simp [Value.oneCell']) ?_))
      go_ret
      exact ⟨.inr ⟨rfl, fun h => by have := (h.2.1 k (by rw [hn.out]; exact h1) _ hx.out).1.2; simp only at this; omega⟩, K1.out⟩
     ·obtain ⟨M, rfl⟩ : ∃ M : Nat, m = (M : Int) := ⟨m.toNat, by omega⟩
      have hmw : Hd (IntKind.i32.wrap (M : Int) = (M : Int)) := ⟨w32 (by omega)⟩
      have hNG : Hd (∀ (P : Prop), ((1 ≤ (M : Int) ∧ (M : Int) ≤ 256) → (∀ j : Nat, (j : Int) < (M : Int) → lett (f + j) = true ∧ lett (t + j) = true) → P) → fchk l → P) := ⟨fun P hp h => by
       obtain ⟨a1, a2, _⟩ := h.2.1 k (by rw [hn.out]; exact h1) _ hx.out
       exact hp a1 a2⟩
      go_wp2_with (first | (with_reducible refine wl_load_mid rfl 100 (.tmp 17) rfl g (o + k * 3) rfl [.int .i32 f, .int .i32 t, .int .i64 (M : Int)] hr.out Tryz.underlying100 rfl (by kernel_rfl) ?_) | (with_reducible refine wl_alloc rfl 100 rfl [.int .i32 0, .int .i32 0, .int .i64 0] (zero100 _) ?_) | (with_reducible refine wl_store_new rfl 100 (.tmp 4) (.tmp 18) rfl [.int .i32 0, .int .i32 0, .int .i64 0] [.int .i32 f, .int .i32 t, .int .i64 (M : Int)] rfl rfl (by kernel_rfl) rfl (by simp [Value.oneCell']) ?_) | (with_reducible refine wl_run rfl (ex_convz _ 3 21 (.tmp 28) rfl (by kernel_rfl) .i32 U21 .i64 (M : Int) (M : Int) rfl hmw.out) ?_))
      obtain ⟨w1, hw1⟩ : ∃ w1, wr.alloc (.cells #[.int .i32 f, .int .i32 t, .int .i64 (M : Int)] 100) = w1 := ⟨_, rfl⟩
      have hw1 := Hd.mk hw1
      rw [hw1.out] at K1 d0 d1 d2 ⊢
      obtain ⟨B, hB⟩ : ∃ B, wr.heap.size = B := ⟨_, rfl⟩
      have hB := Hd.mk hB
      rw [hB.out] at d0 d1 d2 ⊢
      go_loopw [30] (fun v30 w2 => ∃ q : Nat, v30 = .int .i32 q ∧ q ≤ M ∧ Hd (w2 = w1 ∧ ∀ j : Nat, j < q → lett (f + j) = true ∧ lett (t + j) = true)) (fun v30 _ => M - (intOf v30).toNat)
      case atStart => exact ⟨0, rfl, Nat.zero_le _, ⟨rfl, fun j hj => absurd hj (Nat.not_lt_zero _)⟩⟩
      case round =>
       obtain ⟨q, rfl, hq, HQ⟩ := hrel
       obtain ⟨hwe, hj⟩ := HQ.out
       subst hwe
       have hj := Hd.mk hj
       clear HQ
       by_cases h3 : q < M
       ·have hqI : (q : Int) < (M : Int) := by omega
        obtain ⟨b1, hb1⟩ : ∃ b, Hd (lett f = b) := ⟨_, ⟨rfl⟩⟩
        obtain ⟨b2, hb2⟩ : ∃ b, Hd (lett t = b) := ⟨_, ⟨rfl⟩⟩
        obtain ⟨b3, hb3⟩ : ∃ b, Hd (lett (f + (q : Int)) = b) := ⟨_, ⟨rfl⟩⟩
        obtain ⟨b4, hb4⟩ : ∃ b, Hd (lett (t + (q : Int)) = b) := ⟨_, ⟨rfl⟩⟩
        cases b1
        ·go_wp2_with (first | (go_at_call 132; (first | with_reducible refine (letter_b f _ hb1.out _).mono ?_ | with_reducible refine (letter_b t _ hb2.out _).mono ?_ | with_reducible refine (letter_b (f + (q : Int)) _ hb3.out _).mono ?_ | with_reducible refine (letter_b (t + (q : Int)) _ hb4.out _).mono ?_); rintro e w' ⟨rfl, rfl⟩; dsimp only))
         go_ret
         exact ⟨.inr ⟨rfl, fun h => hNG.out False (fun _ a => by have := (a 0 (by omega)).1; rw [show f + ((0 : Nat) : Int) = f by omega, hb1.out] at this; cases this) h⟩, K1.out⟩
        ·cases b2
         ·go_wp2_with (first | (go_at_call 132; (first | with_reducible refine (letter_b f _ hb1.out _).mono ?_ | with_reducible refine (letter_b t _ hb2.out _).mono ?_ | with_reducible refine (letter_b (f + (q : Int)) _ hb3.out _).mono ?_ | with_reducible refine (letter_b (t + (q : Int)) _ hb4.out _).mono ?_); rintro e w' ⟨rfl, rfl⟩; dsimp only))
          go_ret
          exact ⟨.inr ⟨rfl, fun h => hNG.out False (fun _ a => by have := (a 0 (by omega)).2; rw [show t + ((0 : Nat) : Int) = t by omega, hb2.out] at this; cases this) h⟩, K1.out⟩
         ·have hz1 : Hd (IntKind.i32.wrap (f + (q : Int)) = f + (q : Int)) := ⟨w32 (by have := lett_bd hb1.out; omega)⟩
          have hz2 : Hd (IntKind.i32.wrap (t + (q : Int)) = t + (q : Int)) := ⟨w32 (by have := lett_bd hb2.out; omega)⟩
          cases b3
          ·go_wp2_with (first | ((with_reducible refine wl_runG ?hw (ex_addk _ 21 21 (.tmp 45) (.tmp 46) rfl .i32 f (q : Int) rfl rfl (f + (q : Int)) hz1.out) ?_); (case hw => rfl); simp only [Act.put, uA, uB, uC]) | (go_at_call 132; (first | with_reducible refine (letter_b f _ hb1.out _).mono ?_ | with_reducible refine (letter_b t _ hb2.out _).mono ?_ | with_reducible refine (letter_b (f + (q : Int)) _ hb3.out _).mono ?_ | with_reducible refine (letter_b (t + (q : Int)) _ hb4.out _).mono ?_); rintro e w' ⟨rfl, rfl⟩; dsimp only))
           go_ret
           exact ⟨.inr ⟨rfl, fun h => hNG.out False (fun _ a => by have := (a q (by omega)).1; rw [hb3.out] at this; cases this) h⟩, K1.out⟩
          ·cases b4
           ·go_wp2_with (first | ((with_reducible refine wl_runG ?hw (ex_addk _ 21 21 (.tmp 45) (.tmp 46) rfl .i32 f (q : Int) rfl rfl (f + (q : Int)) hz1.out) ?_); (case hw => rfl); simp only [Act.put, uA, uB, uC]) | ((with_reducible refine wl_runG ?hw (ex_addk _ 21 21 (.tmp 53) (.tmp 54) rfl .i32 t (q : Int) rfl rfl (t + (q : Int)) hz2.out) ?_); (case hw => rfl); simp only [Act.put, uA, uB, uC]) | (go_at_call 132; (first | with_reducible refine (letter_b f _ hb1.out _).mono ?_ | with_reducible refine (letter_b t _ hb2.out _).mono ?_ | with_reducible refine (letter_b (f + (q : Int)) _ hb3.out _).mono ?_ | with_reducible refine (letter_b (t + (q : Int)) _ hb4.out _).mono ?_); rintro e w' ⟨rfl, rfl⟩; dsimp only))
            go_ret
            exact ⟨.inr ⟨rfl, fun h => hNG.out False (fun _ a => by have := (a q (by omega)).2; rw [hb4.out] at this; cases this) h⟩, K1.out⟩
           ·go_wp2_with (first | ((with_reducible refine wl_runG ?hw (ex_addk _ 21 21 (.tmp 45) (.tmp 46) rfl .i32 f (q : Int) rfl rfl (f + (q : Int)) hz1.out) ?_); (case hw => rfl); simp only [Act.put, uA, uB, uC]) | ((with_reducible refine wl_runG ?hw (ex_addk _ 21 21 (.tmp 53) (.tmp 54) rfl .i32 t (q : Int) rfl rfl (t + (q : Int)) hz2.out) ?_); (case hw => rfl); simp only [Act.put, uA, uB, uC]) | (go_at_call 132; (first | with_reducible refine (letter_b f _ hb1.out _).mono ?_ | with_reducible refine (letter_b t _ hb2.out _).mono ?_ | with_reducible refine (letter_b (f + (q : Int)) _ hb3.out _).mono ?_ | with_reducible refine (letter_b (t + (q : Int)) _ hb4.out _).mono ?_); rintro e w' ⟨rfl, rfl⟩; dsimp only))
            exact ⟨⟨q + 1, by go_num, by omega, ⟨by simp, fun j hjq => by
             by_cases e : j = q
             ·subst e; exact ⟨hb3.out, hb4.out⟩
             ·exact hj.out j (by omega)⟩⟩, by simp [intOf]; omega⟩
       ·have hqI : ¬ (q : Int) < (M : Int) := by omega
        have hlets : Hd (∀ j : Nat, (j : Int) < (M : Int) → lett (f + j) = true ∧ lett (t + j) = true) := ⟨fun j hjm => hj.out j (by omega)⟩
        have hfb : Hd ((48 ≤ f ∧ f ≤ 1279) ∧ (48 ≤ t ∧ t ≤ 1279)) := ⟨by
         obtain ⟨a1, a2⟩ := hlets.out 0 (by omega)
         have := lett_bd a1
         have := lett_bd a2
         omega⟩
        cases k with
        | zero =>
         have hg : Hd (Good1 l 0) := ⟨fun x' hx' => by
          rw [hx.out] at hx'
          cases hx'
          exact ⟨⟨by show (1 : Int) ≤ (M : Int); omega, by show (M : Int) ≤ 256; omega⟩, hlets.out, fun j y e => by omega⟩⟩
         have hS : Hd ((fun W : World => True) wr.drew) := ⟨trivial⟩
         go_wp2_with fail
         refine rn_begin (fun W : World => True) (List.range 22) (by kernel_rfl) ?_
         refine rnA 0 60 (.int .i64 0) (rnM rfl rfl) hS.out ?_
         refine rnA 1 61 (.bool false) (fun W hW => ex_gtr W 3 _ _ _ rfl .i64 0 0 rfl rfl false (by simp)) hS.out ?_
         simp only [Act.put, uA, uB, uC]
         refine rnA 2 62 (.bool false) (rnM rfl rfl) hS.out ?_
         refine rnP 3 63 hS.out ?_
         simp only [Act.put, uA, uB, uC]
         refine rnP 4 64 hS.out ?_
         refine rnP 5 65 hS.out ?_
         simp only [Act.put, uA, uB, uC]
         refine rnP 6 66 hS.out ?_
         refine rnP 7 67 hS.out ?_
         simp only [Act.put, uA, uB, uC]
         refine rnP 8 68 hS.out ?_
         refine rnP 9 69 hS.out ?_
         simp only [Act.put, uA, uB, uC]
         refine rnP 10 70 hS.out ?_
         refine rnP 11 71 hS.out ?_
         simp only [Act.put, uA, uB, uC]
         refine rnP 12 72 hS.out ?_
         refine rnP 13 73 hS.out ?_
         simp only [Act.put, uA, uB, uC]
         refine rnP 14 74 hS.out ?_
         refine rnP 15 75 hS.out ?_
         simp only [Act.put, uA, uB, uC]
         refine rnP 16 76 hS.out ?_
         refine rnP 17 77 hS.out ?_
         simp only [Act.put, uA, uB, uC]
         refine rnP 18 78 hS.out ?_
         refine rnP 19 79 hS.out ?_
         simp only [Act.put, uA, uB, uC]
         refine rnP 20 80 hS.out ?_
         refine rnA 21 81 (.bool false) (fun W hW => ex_pick W _ _ _ rfl false _ rfl rfl) hS.out ?_
         simp only [Act.put, uA, uB, uC]
         refine rn_done (by kernel_rfl) ?_ _
         clear hS
         go_wp2_with fail
         exact ⟨⟨1, by go_num, by omega, ⟨K1.out.drew, fun j hj1 => by
          obtain rfl : j = 0 := by omega
          exact hg.out⟩⟩, by simp [intOf]; omega⟩
        | succ k' =>
         obtain ⟨y, hy⟩ : ∃ y, l[k']? = some y := ⟨_, List.getElem?_eq_getElem (by rw [hn.out]; omega)⟩
         obtain ⟨p1, p2, p3⟩ := (HK.out.2 k' (by omega)).bd hy
         obtain ⟨g2, o2', hA2, c1, _, c3⟩ := (HF.out.keep K1.out).cells hy
         cases hA2
         have hy := Hd.mk hy
         obtain ⟨yf, yt, ym⟩ := y
         simp only at p1 p2 p3 c1 c3
         have hk1 : Hd (IntKind.i64.wrap (((k' + 1 : Nat) : Int) - 1) = (k' : Int)) := ⟨by rw [w64 (by omega)]; omega⟩
         have hym : Hd (IntKind.i32.wrap ym = ym) := ⟨w32 (by omega)⟩
         have hs1 : Hd (IntKind.i32.wrap (yf + ym) = yf + ym) := ⟨w32 (by omega)⟩
         have hs2 : Hd (IntKind.i32.wrap (yf + ym - 1) = yf + ym - 1) := ⟨w32 (by omega)⟩
         have hkp : Hd (((k' + 1 : Nat) : Int) > 0) := ⟨by omega⟩
         have hS : Hd ((fun W : World => W.cell? ⟨B, 0, none⟩ = some (.int .i32 f) ∧ W.cell? ⟨g, o + k' * 3, none⟩ = some (.int .i32 yf) ∧ W.cell? ⟨g, o + k' * 3 + 2, none⟩ = some (.int .i64 ym)) wr.drew) := ⟨⟨d0, c1, c3⟩⟩
         have h61 : Hd (decide ((0 : Int) < ((k' + 1 : Nat) : Int)) = true) := ⟨decide_eq_true (by omega)⟩
         by_cases hord : f ≤ yf + ym - 1
         ·have h80 : Hd (decide (f ≤ yf + ym - 1) = true) := ⟨decide_eq_true hord⟩
          have hord := Hd.mk hord
          go_wp2_with fail
          refine rn_begin (fun W : World => W.cell? ⟨B, 0, none⟩ = some (.int .i32 f) ∧ W.cell? ⟨g, o + k' * 3, none⟩ = some (.int .i32 yf) ∧ W.cell? ⟨g, o + k' * 3 + 2, none⟩ = some (.int .i64 ym)) (List.range 22) (by kernel_rfl) ?_
          refine rnA 0 60 (.int .i64 ((k' + 1 : Nat) : Int)) (rnM rfl rfl) hS.out ?_
          refine rnA 1 61 (.bool true) (fun W hW => ex_gtr W 3 _ _ _ rfl .i64 ((k' + 1 : Nat) : Int) 0 rfl rfl true (h61.out)) hS.out ?_
          simp only [Act.put, uA, uB, uC]
          refine rnA 2 62 (.bool true) (rnM rfl rfl) hS.out ?_
          refine rnA 3 63 (.pointer (some ⟨B, 0, none⟩)) (erF 100 0 _ rfl B 0 0 0 0 Tryz.underlying100 rfl) hS.out ?_
          simp only [Act.put, uA, uB, uC]
          refine rnA 4 64 (.int .i32 f) (fun W hW => ex_load W 21 _ _ rfl ⟨B, 0, none⟩ U21 rfl rfl (hW.1)) hS.out ?_
          refine rnA 5 65 (.slice (some ⟨g, o, none⟩) n c) (rnM rfl rfl) hS.out ?_
          simp only [Act.put, uA, uB, uC]
          refine rnA 6 66 (.int .i64 ((k' + 1 : Nat) : Int)) (rnM rfl rfl) hS.out ?_
          refine rnA 7 67 (.int .i64 ((k' : Nat) : Int)) (fun W hW => ex_subk W 3 3 _ _ rfl .i64 _ _ rfl rfl (k' : Int) hk1.out) hS.out ?_
          simp only [Act.put, uA, uB, uC]
          refine rnA 8 68 (.pointer (some ⟨g, o + k' * 3, none⟩)) (erI 47 100 _ _ rfl 3 k' U47 g o _ _ (o + k' * 3)) hS.out ?_
          refine rnA 9 69 (.pointer (some ⟨g, o + k' * 3, none⟩)) (erF 100 0 _ rfl g (o + k' * 3) 0 0 (o + k' * 3) Tryz.underlying100 rfl) hS.out ?_
          simp only [Act.put, uA, uB, uC]
          refine rnA 10 70 (.int .i32 yf) (fun W hW => ex_load W 21 _ _ rfl ⟨g, o + k' * 3, none⟩ U21 rfl rfl (hW.2.1)) hS.out ?_
          refine rnA 11 71 (.slice (some ⟨g, o, none⟩) n c) (rnM rfl rfl) hS.out ?_
          simp only [Act.put, uA, uB, uC]
          refine rnA 12 72 (.int .i64 ((k' + 1 : Nat) : Int)) (rnM rfl rfl) hS.out ?_
          refine rnA 13 73 (.int .i64 ((k' : Nat) : Int)) (fun W hW => ex_subk W 3 3 _ _ rfl .i64 _ _ rfl rfl (k' : Int) hk1.out) hS.out ?_
          simp only [Act.put, uA, uB, uC]
          refine rnA 14 74 (.pointer (some ⟨g, o + k' * 3, none⟩)) (erI 47 100 _ _ rfl 3 k' U47 g o _ _ (o + k' * 3)) hS.out ?_
          refine rnA 15 75 (.pointer (some ⟨g, o + k' * 3 + 2, none⟩)) (erF 100 2 _ rfl g (o + k' * 3) 0 2 (o + k' * 3 + 2) Tryz.underlying100 rfl) hS.out ?_
          simp only [Act.put, uA, uB, uC]
          refine rnA 16 76 (.int .i64 (ym)) (fun W hW => ex_load W 3 _ _ rfl ⟨g, o + k' * 3 + 2, none⟩ U3 rfl rfl (hW.2.2)) hS.out ?_
          refine rnA 17 77 (.int .i32 ym) (fun W hW => ex_convz W 3 21 _ rfl (by kernel_rfl) .i32 U21 .i64 ym ym rfl hym.out) hS.out ?_
          simp only [Act.put, uA, uB, uC]
          refine rnA 18 78 (.int .i32 (yf + ym)) (fun W hW => ex_addk W 21 21 _ _ rfl .i32 yf ym rfl rfl (yf + ym) hs1.out) hS.out ?_
          refine rnA 19 79 (.int .i32 (yf + ym - 1)) (fun W hW => ex_subk W 21 21 _ _ rfl .i32 (yf + ym) 1 rfl rfl (yf + ym - 1) hs2.out) hS.out ?_
          simp only [Act.put, uA, uB, uC]
          refine rnA 20 80 (.bool true) (fun W hW => ex_leq W 21 _ _ _ rfl .i32 f (yf + ym - 1) rfl rfl true (h80.out)) hS.out ?_
          refine rnA 21 81 (.bool true) (fun W hW => ex_pick W _ _ _ rfl true _ rfl rfl) hS.out ?_
          simp only [Act.put, uA, uB, uC]
          refine rn_done (by kernel_rfl) ?_ _
          clear hS
          go_wp2_with fail
          go_ret
          exact ⟨.inr ⟨rfl, fun h => by
           have := (h.2.1 (k' + 1) (by rw [hn.out]; exact h1) _ hx.out).2.2 k' _ rfl hy.out
           have := hord.out
           simp only at *
           omega⟩, K1.out.drew⟩
         ·have h80 : Hd (decide (f ≤ yf + ym - 1) = false) := ⟨decide_eq_false hord⟩
          have hord := Hd.mk hord
          go_wp2_with fail
          refine rn_begin (fun W : World => W.cell? ⟨B, 0, none⟩ = some (.int .i32 f) ∧ W.cell? ⟨g, o + k' * 3, none⟩ = some (.int .i32 yf) ∧ W.cell? ⟨g, o + k' * 3 + 2, none⟩ = some (.int .i64 ym)) (List.range 22) (by kernel_rfl) ?_
          refine rnA 0 60 (.int .i64 ((k' + 1 : Nat) : Int)) (rnM rfl rfl) hS.out ?_
          refine rnA 1 61 (.bool true) (fun W hW => ex_gtr W 3 _ _ _ rfl .i64 ((k' + 1 : Nat) : Int) 0 rfl rfl true (h61.out)) hS.out ?_
          simp only [Act.put, uA, uB, uC]
          refine rnA 2 62 (.bool true) (rnM rfl rfl) hS.out ?_
          refine rnA 3 63 (.pointer (some ⟨B, 0, none⟩)) (erF 100 0 _ rfl B 0 0 0 0 Tryz.underlying100 rfl) hS.out ?_
          simp only [Act.put, uA, uB, uC]
          refine rnA 4 64 (.int .i32 f) (fun W hW => ex_load W 21 _ _ rfl ⟨B, 0, none⟩ U21 rfl rfl (hW.1)) hS.out ?_
          refine rnA 5 65 (.slice (some ⟨g, o, none⟩) n c) (rnM rfl rfl) hS.out ?_
          simp only [Act.put, uA, uB, uC]
          refine rnA 6 66 (.int .i64 ((k' + 1 : Nat) : Int)) (rnM rfl rfl) hS.out ?_
          refine rnA 7 67 (.int .i64 ((k' : Nat) : Int)) (fun W hW => ex_subk W 3 3 _ _ rfl .i64 _ _ rfl rfl (k' : Int) hk1.out) hS.out ?_
          simp only [Act.put, uA, uB, uC]
          refine rnA 8 68 (.pointer (some ⟨g, o + k' * 3, none⟩)) (erI 47 100 _ _ rfl 3 k' U47 g o _ _ (o + k' * 3)) hS.out ?_
          refine rnA 9 69 (.pointer (some ⟨g, o + k' * 3, none⟩)) (erF 100 0 _ rfl g (o + k' * 3) 0 0 (o + k' * 3) Tryz.underlying100 rfl) hS.out ?_
          simp only [Act.put, uA, uB, uC]
          refine rnA 10 70 (.int .i32 yf) (fun W hW => ex_load W 21 _ _ rfl ⟨g, o + k' * 3, none⟩ U21 rfl rfl (hW.2.1)) hS.out ?_
          refine rnA 11 71 (.slice (some ⟨g, o, none⟩) n c) (rnM rfl rfl) hS.out ?_
          simp only [Act.put, uA, uB, uC]
          refine rnA 12 72 (.int .i64 ((k' + 1 : Nat) : Int)) (rnM rfl rfl) hS.out ?_
          refine rnA 13 73 (.int .i64 ((k' : Nat) : Int)) (fun W hW => ex_subk W 3 3 _ _ rfl .i64 _ _ rfl rfl (k' : Int) hk1.out) hS.out ?_
          simp only [Act.put, uA, uB, uC]
          refine rnA 14 74 (.pointer (some ⟨g, o + k' * 3, none⟩)) (erI 47 100 _ _ rfl 3 k' U47 g o _ _ (o + k' * 3)) hS.out ?_
          refine rnA 15 75 (.pointer (some ⟨g, o + k' * 3 + 2, none⟩)) (erF 100 2 _ rfl g (o + k' * 3) 0 2 (o + k' * 3 + 2) Tryz.underlying100 rfl) hS.out ?_
          simp only [Act.put, uA, uB, uC]
          refine rnA 16 76 (.int .i64 (ym)) (fun W hW => ex_load W 3 _ _ rfl ⟨g, o + k' * 3 + 2, none⟩ U3 rfl rfl (hW.2.2)) hS.out ?_
          refine rnA 17 77 (.int .i32 ym) (fun W hW => ex_convz W 3 21 _ rfl (by kernel_rfl) .i32 U21 .i64 ym ym rfl hym.out) hS.out ?_
          simp only [Act.put, uA, uB, uC]
          refine rnA 18 78 (.int .i32 (yf + ym)) (fun W hW => ex_addk W 21 21 _ _ rfl .i32 yf ym rfl rfl (yf + ym) hs1.out) hS.out ?_
          refine rnA 19 79 (.int .i32 (yf + ym - 1)) (fun W hW => ex_subk W 21 21 _ _ rfl .i32 (yf + ym) 1 rfl rfl (yf + ym - 1) hs2.out) hS.out ?_
          simp only [Act.put, uA, uB, uC]
          refine rnA 20 80 (.bool false) (fun W hW => ex_leq W 21 _ _ _ rfl .i32 f (yf + ym - 1) rfl rfl false (h80.out)) hS.out ?_
          refine rnA 21 81 (.bool false) (fun W hW => ex_pick W _ _ _ rfl true _ rfl rfl) hS.out ?_
          simp only [Act.put, uA, uB, uC]
          refine rn_done (by kernel_rfl) ?_ _
          clear hS
          go_wp2_with fail
          exact ⟨⟨k' + 1 + 1, by go_num, by omega, ⟨K1.out.drew, fun j hj1 => by
           by_cases e : j = k' + 1
           ·subst e
            intro x' hx'
            rw [hx.out] at hx'
            cases hx'
            refine ⟨⟨by show (1 : Int) ≤ (M : Int); omega, by show (M : Int) ≤ 256; omega⟩, hlets.out, fun j y e hyy => ?_⟩
            obtain rfl : j = k' := by omega
            rw [hy.out] at hyy
            cases hyy
            have := hord.out
            show yf + ym - 1 < f
            omega
           ·exact HK.out.2 j (by omega)⟩⟩, by simp [intOf]; omega⟩
   ·have hltI : ¬ (k : Int) < (n : Int) := by omega
    obtain rfl : k = n := by omega
    have hG := Hd.mk (show ∀ i, i < l.length → Good1 l i from fun i hi => HK.out.2 i (by have := hn.out; omega))
    have hok := Hd.mk (fok_of hG.out)
    have KE := Hd.mk HK.out.1
    have h8' := h8
    clear HK h8I h8
    go_wp2_with fail
    go_loopw [85] (fun v85 w2 => ∃ i : Nat, v85 = .int .i64 i ∧ i ≤ k ∧ Hd (KZ w w2 ∧ ∀ j, j < i → Good2 l j)) (fun v85 _ => k - (intOf v85).toNat)
    case atStart => exact ⟨0, rfl, Nat.zero_le _, ⟨KE.out, fun j hj => absurd hj (Nat.not_lt_zero _)⟩⟩
    case round =>
     obtain ⟨i, rfl, hi, HI⟩ := hrel
     by_cases h1 : i < k
     ·have hltI : (i : Int) < (k : Int) := by omega
      obtain ⟨x, hx⟩ : ∃ x, l[i]? = some x := ⟨_, List.getElem?_eq_getElem (by rw [hn.out]; exact h1)⟩
      obtain ⟨g, o, rfl, hr⟩ := (HF.out.keep HI.out.1).row hx
      obtain ⟨q1, q2, q3⟩ := (hG.out i (by rw [hn.out]; exact h1)).bd hx
      have hx := Hd.mk hx
      obtain ⟨f, t, m⟩ := x
      simp only at hr q1 q2 q3
      have hr := Hd.mk hr
      obtain ⟨M, rfl⟩ : ∃ M : Nat, m = (M : Int) := ⟨m.toNat, by omega⟩
      have hmw : Hd (IntKind.i32.wrap (M : Int) = (M : Int)) := ⟨w32 (by omega)⟩
      obtain ⟨d0, d1, d2⟩ := row3_new wr (.int .i32 f) (.int .i32 t) (.int .i64 (M : Int)) 100
      have K1 : Hd (KZ w (wr.alloc (.cells #[.int .i32 f, .int .i32 t, .int .i64 (M : Int)] 100))) := ⟨HI.out.1.alloc _⟩
      go_wp2_with (first | (with_reducible refine wl_load_mid rfl 100 (.tmp 87) rfl g (o + i * 3) rfl [.int .i32 f, .int .i32 t, .int .i64 (M : Int)] hr.out Tryz.underlying100 rfl (by kernel_rfl) ?_) | (with_reducible refine wl_alloc rfl 100 rfl [.int .i32 0, .int .i32 0, .int .i64 0] (zero100 _) ?_) | (with_reducible refine wl_store_new rfl 100 (.tmp 7) (.tmp 88) rfl [.int .i32 0, .int .i32 0, .int .i64 0] [.int .i32 f, .int .i32 t, .int .i64 (M : Int)] rfl rfl (by kernel_rfl) rfl (by simp [Value.oneCell']) ?_) | (with_reducible refine wl_run rfl (ex_convz _ 3 21 (.tmp 90) rfl (by kernel_rfl) .i32 U21 .i64 (M : Int) (M : Int) rfl hmw.out) ?_))
      obtain ⟨w1, hw1⟩ : ∃ w1, wr.alloc (.cells #[.int .i32 f, .int .i32 t, .int .i64 (M : Int)] 100) = w1 := ⟨_, rfl⟩
      have hw1 := Hd.mk hw1
      rw [hw1.out] at K1 d0 d1 d2 ⊢
      obtain ⟨B, hB⟩ : ∃ B, wr.heap.size = B := ⟨_, rfl⟩
      have hB := Hd.mk hB
      rw [hB.out] at d0 d1 d2 ⊢
      have d1 := Hd.mk d1
      clear d0 d2
      go_loopw [92] (fun v92 w2 => ∃ q : Nat, v92 = .int .i32 q ∧ q ≤ M ∧ Hd (KZ w1 w2 ∧ ∀ j : Nat, j < q → fidx l (t + j) = none)) (fun v92 _ => M - (intOf v92).toNat)
      case atStart => exact ⟨0, rfl, Nat.zero_le _, ⟨Kp.refl _ _, fun j hj => absurd hj (Nat.not_lt_zero _)⟩⟩
      case round =>
       obtain ⟨q, rfl, hq, HQ⟩ := hrel
       by_cases h3 : q < M
       ·have hqI : (q : Int) < (M : Int) := by omega
        have hz2 : Hd (IntKind.i32.wrap (t + (q : Int)) = t + (q : Int)) := ⟨w32 (by omega)⟩
        have K2 := Hd.mk (K1.out.th HQ.out.1)
        have d1' := HQ.out.1.see d1.out id
        have hfo := Hd.mk (folds_at (c := c) l (t + (q : Int)) (by omega) (by have := hn.out; omega) (by rw [hn.out]; exact HF.out.keep K2.out) hok.out)
        rw [hn.out] at hfo
        go_wp2_with (first | ((with_reducible refine wl_run rfl (ex_addk _ 21 21 (.tmp 97) (.tmp 98) rfl .i32 t (q : Int) rfl rfl (t + (q : Int)) hz2.out) ?_)) | (go_at_call 133; refine hfo.out.mono ?_; rintro e w3 ⟨he, hk3⟩; have K3 := Hd.mk (K2.out.th hk3); have HK3 := Hd.mk (HQ.out.1.th hk3); clear hk3 d1'; rcases he with ⟨hne, rfl⟩ | ⟨k3, g3, o3, hne, hA3, rfl⟩ <;> have hne := Hd.mk hne <;> dsimp only))
        ·exact ⟨⟨q + 1, by go_num, by omega, ⟨HK3.out, fun j hjq => by
          by_cases e : j = q
          ·subst e; exact hne.out
          ·exact HQ.out.2 j (by omega)⟩⟩, by simp [intOf]; omega⟩
        ·go_ret
         exact ⟨.inr ⟨rfl, fun h => by
          have := h.2.2 i (by rw [hn.out]; exact h1) _ hx.out q (by simpa using hqI)
          rw [hne.out] at this
          cases this⟩, K3.out⟩
       ·have hqI : ¬ (q : Int) < (M : Int) := by omega
        have K2 := Hd.mk (K1.out.th HQ.out.1)
        go_wp2_with fail
        exact ⟨⟨i + 1, by go_num, by omega, ⟨K2.out, fun j hj1 => by
         by_cases e : j = i
         ·subst e
          intro x' hx' z hz
          rw [hx.out] at hx'
          cases hx'
          exact HQ.out.2 z (by simp only at hz; omega)
         ·exact HI.out.2 j (by omega)⟩⟩, by simp [intOf]; omega⟩
     ·have hltI : ¬ (i : Int) < (k : Int) := by omega
      go_wp2_with fail
      go_ret
      exact ⟨.inl ⟨rfl, by have := hn.out; have := h8' ; omega, hG.out, fun j hj => HI.out.2 j (by have := hn.out; omega)⟩, HI.out.1⟩
 ·have h8I : (8 : Int) < (n : Int) := by omega
  go_enter Tryz.func111, Tryz.ntmps111
  go_wp2_with fail
  go_ret
  exact ⟨.inr ⟨rfl, fun h => h8 (by rw [← hn.out]; exact h.1)⟩, Kp.refl _ _⟩
end Go.Proofs.YtkcechpaeilaeaaGreatDoor
