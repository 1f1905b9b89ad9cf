/- DiskNone: the walk. -/
import Derived.Test.YtkcechpaeilaeaaL5
namespace Go.Proofs.Ytkcechpaeilaeaa
open Go.RowKit
set_option linter.unusedVariables false
set_option linter.unusedSimpArgs false


theorem none_world (w : World) : Hd (Kp (fun _ => False) w ((w.alloc (.cells #[.slice none 0 0, .slice none 0 0, .map none, .bool false, .bool false, .int .i64 0, .int .i64 0] 61)).alloc (.cells #[.pointer none, .pointer (some ⟨w.heap.size, 0, none⟩)] 26))) ∧ ((w.alloc (.cells #[.slice none 0 0, .slice none 0 0, .map none, .bool false, .bool false, .int .i64 0, .int .i64 0] 61)).alloc (.cells #[.pointer none, .pointer (some ⟨w.heap.size, 0, none⟩)] 26)).cell? ⟨w.heap.size + 1, 0, none⟩ = some (.pointer none) ∧ ((w.alloc (.cells #[.slice none 0 0, .slice none 0 0, .map none, .bool false, .bool false, .int .i64 0, .int .i64 0] 61)).alloc (.cells #[.pointer none, .pointer (some ⟨w.heap.size, 0, none⟩)] 26)).cell? ⟨w.heap.size + 1, 1, none⟩ = some (.pointer (some ⟨w.heap.size, 0, none⟩)) ∧ ((w.alloc (.cells #[.slice none 0 0, .slice none 0 0, .map none, .bool false, .bool false, .int .i64 0, .int .i64 0] 61)).alloc (.cells #[.pointer none, .pointer (some ⟨w.heap.size, 0, none⟩)] 26)).cell? ⟨w.heap.size, 0, none⟩ = some (.slice none 0 0) := by
  have hz := (Blk.new w [.slice none 0 0, .slice none 0 0, .map none, .bool false, .bool false, .int .i64 0, .int .i64 0] 61).alloc (.cells #[.pointer none, .pointer (some ⟨w.heap.size, 0, none⟩)] 26)
  have hl := Blk.new (w.alloc (.cells #[.slice none 0 0, .slice none 0 0, .map none, .bool false, .bool false, .int .i64 0, .int .i64 0] 61)) [.pointer none, .pointer (some ⟨w.heap.size, 0, none⟩)] 26
  rw [show (w.alloc (.cells #[.slice none 0 0, .slice none 0 0, .map none, .bool false, .bool false, .int .i64 0, .int .i64 0] 61)).heap.size = w.heap.size + 1 from by simp] at hl
  exact ⟨⟨((Kp.refl (fun _ => False) w).alloc _).alloc _⟩, (hl.cell 0).trans rfl, (hl.cell 1).trans rfl, (hz.cell 0).trans rfl⟩

set_option maxRecDepth 20000 in
set_option maxHeartbeats 4000000 in
theorem disknone_at (w : World) (p : Int) (A : Option Addr) (n c : Nat) : Calls Try.prog 7 #[.int .i64 p, .slice A n c] w fun e w' => e = .returned (.bool true) ∧ Kp (fun _ => False) w w' := by
  go_enter Try.func7, Try.ntmps7
  go_wp2_with fail
  obtain ⟨HK, hc0, hc1, hz⟩ := none_world w
  generalize ((w.alloc (.cells #[.slice none 0 0, .slice none 0 0, .map none, .bool false, .bool false, .int .i64 0, .int .i64 0] 61)).alloc (.cells #[.pointer none, .pointer (some ⟨w.heap.size, 0, none⟩)] 26)) = w2 at *
  go_loop [13] (fun v13 => ∃ k : Nat, v13 = .int .i64 k ∧ k ≤ 2) (fun v13 => 2 - (intOf v13).toNat)
  case atStart => exact ⟨0, rfl, by omega⟩
  case round =>
    obtain ⟨k, rfl, hk⟩ := hrel
    dsimp only [List.append]
    by_cases h0 : k = 0
    · subst h0
      have hn := Hd.mk (nn_nil w2)
      clear hk
      go_wp2_with (first | (go_at_call 17; refine (nn_read hn.out _).mono ?_; rintro e w' ⟨rfl, rfl⟩; dsimp only) | (go_at_call 12; refine (nn_write hn.out _ _ _ _).mono ?_; rintro e w' ⟨rfl, rfl⟩; dsimp only) | (go_at_call 16; refine (nn_sync hn.out).mono ?_; rintro e w' ⟨rfl, rfl⟩; dsimp only) | (go_at_call 25; refine (nn_arm hn.out _).mono ?_; rintro e w' ⟨rfl, rfl⟩; dsimp only) | (go_at_call 26; refine (nn_calm hn.out).mono ?_; rintro e w' ⟨rfl, rfl⟩; dsimp only) | (go_at_call 13; refine (nn_crash hn.out _).mono ?_; rintro e w' ⟨rfl, rfl⟩; dsimp only) | (go_at_call 27; refine (nn_load hn.out _).mono ?_; rintro e w' ⟨rfl, rfl⟩; dsimp only) | (go_at_call 28; refine (nn_on hn.out).mono ?_; rintro e w' ⟨rfl, rfl⟩; dsimp only) | (go_at_call 29; refine (nn_pages hn.out).mono ?_; rintro e w' ⟨rfl, rfl⟩; dsimp only) | (go_at_call 18; refine (nn_waits hn.out).mono ?_; rintro e w' ⟨rfl, rfl⟩; dsimp only) | (go_at_call 30; refine (nn_ops hn.out).mono ?_; rintro e w' ⟨rfl, rfl⟩; dsimp only) | (go_at_call 14; refine (nn_image hn.out).mono ?_; rintro e w' ⟨rfl, rfl⟩; dsimp only) | (go_at_call 20; refine (nn_clone hn.out).mono ?_; rintro e w' ⟨rfl, rfl⟩; dsimp only) | (go_at_call 10; refine (live_at _).mono ?_; rintro e w9 ⟨rfl, hk9⟩))
      exact ⟨⟨1, rfl, by omega⟩, by simp [intOf]⟩
    · by_cases h1 : k = 1
      · subst h1
        have hn := Hd.mk (nn_zero w2 w.heap.size hz)
        clear hk h0
        go_wp2_with (first | (go_at_call 17; refine (nn_read hn.out _).mono ?_; rintro e w' ⟨rfl, rfl⟩; dsimp only) | (go_at_call 12; refine (nn_write hn.out _ _ _ _).mono ?_; rintro e w' ⟨rfl, rfl⟩; dsimp only) | (go_at_call 16; refine (nn_sync hn.out).mono ?_; rintro e w' ⟨rfl, rfl⟩; dsimp only) | (go_at_call 25; refine (nn_arm hn.out _).mono ?_; rintro e w' ⟨rfl, rfl⟩; dsimp only) | (go_at_call 26; refine (nn_calm hn.out).mono ?_; rintro e w' ⟨rfl, rfl⟩; dsimp only) | (go_at_call 13; refine (nn_crash hn.out _).mono ?_; rintro e w' ⟨rfl, rfl⟩; dsimp only) | (go_at_call 27; refine (nn_load hn.out _).mono ?_; rintro e w' ⟨rfl, rfl⟩; dsimp only) | (go_at_call 28; refine (nn_on hn.out).mono ?_; rintro e w' ⟨rfl, rfl⟩; dsimp only) | (go_at_call 29; refine (nn_pages hn.out).mono ?_; rintro e w' ⟨rfl, rfl⟩; dsimp only) | (go_at_call 18; refine (nn_waits hn.out).mono ?_; rintro e w' ⟨rfl, rfl⟩; dsimp only) | (go_at_call 30; refine (nn_ops hn.out).mono ?_; rintro e w' ⟨rfl, rfl⟩; dsimp only) | (go_at_call 14; refine (nn_image hn.out).mono ?_; rintro e w' ⟨rfl, rfl⟩; dsimp only) | (go_at_call 20; refine (nn_clone hn.out).mono ?_; rintro e w' ⟨rfl, rfl⟩; dsimp only) | (go_at_call 10; refine (live_at _).mono ?_; rintro e w9 ⟨rfl, hk9⟩))
        exact ⟨⟨2, rfl, by omega⟩, by simp [intOf]⟩
      · have h2 : k = 2 := by omega
        subst h2
        clear h0 h1 hk
        go_wp2_with (first | (go_at_call 17; refine (nn_read hn.out _).mono ?_; rintro e w' ⟨rfl, rfl⟩; dsimp only) | (go_at_call 12; refine (nn_write hn.out _ _ _ _).mono ?_; rintro e w' ⟨rfl, rfl⟩; dsimp only) | (go_at_call 16; refine (nn_sync hn.out).mono ?_; rintro e w' ⟨rfl, rfl⟩; dsimp only) | (go_at_call 25; refine (nn_arm hn.out _).mono ?_; rintro e w' ⟨rfl, rfl⟩; dsimp only) | (go_at_call 26; refine (nn_calm hn.out).mono ?_; rintro e w' ⟨rfl, rfl⟩; dsimp only) | (go_at_call 13; refine (nn_crash hn.out _).mono ?_; rintro e w' ⟨rfl, rfl⟩; dsimp only) | (go_at_call 27; refine (nn_load hn.out _).mono ?_; rintro e w' ⟨rfl, rfl⟩; dsimp only) | (go_at_call 28; refine (nn_on hn.out).mono ?_; rintro e w' ⟨rfl, rfl⟩; dsimp only) | (go_at_call 29; refine (nn_pages hn.out).mono ?_; rintro e w' ⟨rfl, rfl⟩; dsimp only) | (go_at_call 18; refine (nn_waits hn.out).mono ?_; rintro e w' ⟨rfl, rfl⟩; dsimp only) | (go_at_call 30; refine (nn_ops hn.out).mono ?_; rintro e w' ⟨rfl, rfl⟩; dsimp only) | (go_at_call 14; refine (nn_image hn.out).mono ?_; rintro e w' ⟨rfl, rfl⟩; dsimp only) | (go_at_call 20; refine (nn_clone hn.out).mono ?_; rintro e w' ⟨rfl, rfl⟩; dsimp only) | (go_at_call 10; refine (live_at _).mono ?_; rintro e w9 ⟨rfl, hk9⟩))
        go_ret
        exact ⟨rfl, HK.out.trans hk9⟩
end Go.Proofs.Ytkcechpaeilaeaa
