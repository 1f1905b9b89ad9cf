/- What an act is called, and what it has. -/
import Derived.Test.YtkcechpaeilaeaaGreatDoorOb
import Derived.Test.YtkcechpaeilaeaaGreatDoorTa
namespace Go.Proofs.YtkcechpaeilaeaaGreatDoor
open Go.RowKit
set_option linter.unusedVariables false
set_option linter.unusedSimpArgs false
set_option maxRecDepth 100000

theorem hn_at (d : Int) (w : World) : Calls Tryz.prog 40 #[.int .i64 d] w fun e w' => e = .returned (.bool (hn d)) ∧ w = w' := by
  go_enter Tryz.func40, Tryz.ntmps40
  go_wp2_with fail
  all_goals go_ret
  all_goals refine ⟨congrArg (fun b => Ending.returned (.bool b)) ?_, rfl⟩
  all_goals (rw [Bool.eq_iff_iff]; simp [hn]; try omega)
theorem rn_at (d : Int) (w : World) : Calls Tryz.prog 47 #[.int .i64 d] w fun e w' => e = .returned (.bool (hn d)) ∧ w = w' := by
  go_enter Tryz.func47, Tryz.ntmps47
  go_wp2_with fail
  all_goals go_ret
  all_goals refine ⟨congrArg (fun b => Ending.returned (.bool b)) ?_, rfl⟩
  all_goals (rw [Bool.eq_iff_iff]; simp [hn]; try omega)
theorem hk_at (d : Int) (w : World) : Calls Tryz.prog 42 #[.int .i64 d] w fun e w' => e = .returned (.bool (hk d)) ∧ w = w' := by
  go_enter Tryz.func42, Tryz.ntmps42
  go_wp2_with fail
  all_goals go_ret
  all_goals refine ⟨congrArg (fun b => Ending.returned (.bool b)) ?_, rfl⟩
  all_goals (rw [Bool.eq_iff_iff]; simp [hk]; try omega)
theorem rk_at (d : Int) (w : World) : Calls Tryz.prog 46 #[.int .i64 d] w fun e w' => e = .returned (.bool (hk d)) ∧ w = w' := by
  go_enter Tryz.func46, Tryz.ntmps46
  go_wp2_with fail
  all_goals go_ret
  all_goals refine ⟨congrArg (fun b => Ending.returned (.bool b)) ?_, rfl⟩
  all_goals (rw [Bool.eq_iff_iff]; simp [hk]; try omega)
theorem ht_at (d : Int) (w : World) : Calls Tryz.prog 43 #[.int .i64 d] w fun e w' => e = .returned (.bool (ht d)) ∧ w = w' := by
  go_enter Tryz.func43, Tryz.ntmps43
  go_wp2_with fail
  all_goals go_ret
  all_goals refine ⟨congrArg (fun b => Ending.returned (.bool b)) ?_, rfl⟩
  all_goals (rw [Bool.eq_iff_iff]; simp [ht]; try omega)
theorem rt_at (d : Int) (w : World) : Calls Tryz.prog 49 #[.int .i64 d] w fun e w' => e = .returned (.bool (ht d)) ∧ w = w' := by
  go_enter Tryz.func49, Tryz.ntmps49
  go_wp2_with fail
  all_goals go_ret
  all_goals refine ⟨congrArg (fun b => Ending.returned (.bool b)) ?_, rfl⟩
  all_goals (rw [Bool.eq_iff_iff]; simp [ht]; try omega)
/-- The names' cells. -/
abbrev nmv : List Value := [.string ⟨#[]⟩, .string ⟨#[98, 101, 103, 105, 110]⟩, .string ⟨#[99, 111, 109, 109, 105, 116]⟩, .string ⟨#[97, 98, 111, 114, 116]⟩, .string ⟨#[97, 100, 100]⟩, .string ⟨#[117, 112, 100, 97, 116, 101]⟩, .string ⟨#[100, 101, 108, 101, 116, 101]⟩, .string ⟨#[103, 101, 116]⟩, .string ⟨#[115, 101, 97, 114, 99, 104]⟩, .string ⟨#[114, 97, 110, 107]⟩, .string ⟨#[99, 111, 109, 112, 97, 99, 116]⟩, .string ⟨#[97, 114, 109]⟩, .string ⟨#[99, 114, 97, 115, 104]⟩, .string ⟨#[111, 112, 101, 110]⟩, .string ⟨#[115, 116, 97, 116]⟩]
theorem nmv_at (k : Nat) (h : k < 15) : nmv[k]? = some (.string ⟨(nm (k : Int)).toArray⟩) := by
  match k, h with
  | 0, _ => rfl
  | 1, _ => rfl
  | 2, _ => rfl
  | 3, _ => rfl
  | 4, _ => rfl
  | 5, _ => rfl
  | 6, _ => rfl
  | 7, _ => rfl
  | 8, _ => rfl
  | 9, _ => rfl
  | 10, _ => rfl
  | 11, _ => rfl
  | 12, _ => rfl
  | 13, _ => rfl
  | 14, _ => rfl
theorem name_no (d : Int) (h : d < 1 ∨ 14 < d) (w : World) : Calls Tryz.prog 39 #[.int .i64 d] w fun e w' => e = .returned (.string ⟨(nm d).toArray⟩) ∧ Kp (fun _ => False) w w' := by
  rw [nm_nil h]
  rcases h with h | h
  all_goals (try have h1 : (1 : Int) ≤ d := by omega)
  all_goals (try have h2 : (15 : Int) ≤ d := by omega)
  all_goals go_enter Tryz.func39, Tryz.ntmps39
  all_goals go_wp2_with fail
  all_goals go_ret
  all_goals exact ⟨rfl, (Kp.refl _ w).alloc _⟩
theorem name_yes (k : Nat) (h1 : 1 ≤ k) (h2 : k ≤ 14) (w : World) : Calls Tryz.prog 39 #[.int .i64 (k : Int)] w fun e w' => e = .returned (.string ⟨(nm (k : Int)).toArray⟩) ∧ Kp (fun _ => False) w w' := by
  have i1 : (1 : Int) ≤ (k : Int) := by omega
  have i2 : (k : Int) < 15 := by omega
  have hc : (w.alloc (.cells nmv.toArray 114)).cell? ⟨w.heap.size, k, none⟩ = some (.string ⟨(nm (k : Int)).toArray⟩) := by
    rw [Lib.cell_of_heap (_root_.Go.heap_alloc_new w _)]
    have := nmv_at k (by omega)
    simpa using this
  generalize nm (k : Int) = s at *
  go_enter Tryz.func39, Tryz.ntmps39
  go_wp2_with fail
  go_ret
  exact ⟨rfl, (Kp.refl _ w).alloc _⟩
theorem name_at (d : Int) (w : World) : Calls Tryz.prog 39 #[.int .i64 d] w fun e w' => e = .returned (.string ⟨(nm d).toArray⟩) ∧ Kp (fun _ => False) w w' := by
  by_cases h : 1 ≤ d ∧ d ≤ 14
  · obtain ⟨k, rfl⟩ : ∃ k : Nat, d = k := ⟨d.toNat, by omega⟩
    exact name_yes k (by omega) (by omega) w
  · exact name_no d (by omega) w
theorem rname_at (k : Nat) (h2 : k ≤ 14) (w : World) : Calls Tryz.prog 45 #[.int .i64 (k : Int)] w fun e w' => e = .returned (.string ⟨(nm (k : Int)).toArray⟩) ∧ Kp (fun _ => False) w w' := by
  have i2 : (k : Int) < 15 := by omega
  have hc : (w.alloc (.cells nmv.toArray 9)).cell? ⟨w.heap.size, k, none⟩ = some (.string ⟨(nm (k : Int)).toArray⟩) := by
    rw [Lib.cell_of_heap (_root_.Go.heap_alloc_new w _)]
    have := nmv_at k (by omega)
    simpa using this
  generalize nm (k : Int) = s at *
  go_enter Tryz.func45, Tryz.ntmps45
  go_wp2_with fail
  go_ret
  exact ⟨rfl, (Kp.refl _ w).alloc _⟩
end Go.Proofs.YtkcechpaeilaeaaGreatDoor
