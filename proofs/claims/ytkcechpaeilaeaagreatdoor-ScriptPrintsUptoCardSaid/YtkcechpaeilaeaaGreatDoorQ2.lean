/- What a digit says. -/
import Derived.Test.YtkcechpaeilaeaaGreatDoorQ1
namespace Go.Proofs.YtkcechpaeilaeaaGreatDoor
open Go.RowKit
set_option linter.unusedVariables false
set_option linter.unusedSimpArgs false
set_option maxRecDepth 20000

theorem vld_hxd {c k : Nat} (hk : k < 16) (h : hxd k = c) : vld c = k := by
  unfold hxd at h; unfold vld
  split at h
  · rw [if_pos (by omega)]; omega
  · rw [if_neg (by omega), if_pos (by omega)]; omega
theorem hxd_vld {c : Nat} (h : vld c < 16) : hxd (vld c) = c := by
  unfold vld at h ⊢
  unfold hxd
  split at h
  · rename_i h1; rw [if_pos h1, if_pos (by omega)]; omega
  · split at h
    · rename_i h0 h1; rw [if_neg h0, if_pos h1, if_neg (by omega)]; omega
    · omega
theorem vld_none {c : Nat} (h : ∀ j, j < 16 → hxd j ≠ c) : vld c = 16 := by
  by_cases e : vld c < 16
  · exact absurd (hxd_vld e) (h _ e)
  · unfold vld at e ⊢
    split at e
    · omega
    · split at e
      · omega
      · rename_i h1 h2; rw [if_neg h1, if_neg h2]
theorem vld_le (c : Nat) : vld c ≤ 16 := by
  unfold vld; split
  · omega
  · split <;> omega
theorem value_at (c : Nat) (w : World) : Calls Tryz.prog 57 #[.int .u8 (c : Int)] w fun e w' => e = .returned (.int .i64 (vld c : Int)) ∧ w = w' := by
  go_enter Tryz.func57, Tryz.ntmps57
  go_wp2_with fail
  go_loopw [3] (fun v3 wr => ∃ k : Nat, v3 = .int .i64 k ∧ (k : Int) ≤ 16 ∧ Hd (∀ j, j < k → hxd j ≠ c) ∧ w = wr) (fun v3 _ => 16 - (intOf v3).toNat)
  case atStart => exact ⟨0, rfl, by omega, ⟨fun j hj => by omega⟩, rfl⟩
  case round =>
    obtain ⟨k, rfl, hk, hj, rfl⟩ := hrel
    by_cases h16 : (k : Int) < 16
    · by_cases hx : hxd k = c
      · have hx2 := Hd.mk hx
        have hx : (hxd k : Int) = (c : Int) := by omega
        go_wp2_with (first | (go_at_call 61; refine (hex_at k (by omega) _).mono ?_; rintro e w' ⟨rfl, rfl⟩))
        go_ret
        simp [vld_hxd (by omega) hx2.out]
      · have hx2 := Hd.mk hx
        have hx : (hxd k : Int) ≠ (c : Int) := by omega
        go_wp2_with (first | (go_at_call 61; refine (hex_at k (by omega) _).mono ?_; rintro e w' ⟨rfl, rfl⟩))
        exact ⟨⟨k + 1, by go_num, by omega, ⟨fun j hjk => by
          rcases Nat.lt_or_ge j k with h | h
          · exact hj.out j h
          · have : j = k := by omega
            subst this; exact hx2.out⟩, trivial⟩, by simp [intOf]; omega⟩
    · have h16 : (k : Int) = 16 := by omega
      go_wp2_with fail
      go_ret
      rw [vld_none (fun j h => hj.out j (by omega))]; exact ⟨rfl, rfl⟩
end Go.Proofs.YtkcechpaeilaeaaGreatDoor
