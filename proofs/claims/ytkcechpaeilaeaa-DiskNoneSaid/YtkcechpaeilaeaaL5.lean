/- A device that no call made. -/
import Derived.Test.YtkcechpaeilaeaaL4
namespace Go.Proofs.Ytkcechpaeilaeaa
open Go.RowKit
set_option linter.unusedVariables false
set_option linter.unusedSimpArgs false

/-- No device. -/
def Nn (w : World) (v : Value) : Prop := Calls Try.prog 33 #[v] w fun e w' => e = .returned (.bool true) ∧ w = w'
theorem nn_nil (w : World) : Nn w (.pointer none) := by
  unfold Nn
  go_enter Try.func33, Try.ntmps33
  go_wp2
  go_ret
  exact ⟨rfl, rfl⟩
theorem nn_zero (w : World) (b : Nat) (h : w.cell? ⟨b, 0, none⟩ = some (.slice none 0 0)) : Nn w (.pointer (some ⟨b, 0, none⟩)) := by
  unfold Nn
  go_enter Try.func33, Try.ntmps33
  go_wp2
  go_ret
  exact ⟨rfl, rfl⟩
section
variable {w : World} {v : Value}
theorem nn_power (h : Nn w v) : Calls Try.prog 35 #[v] w fun e w' => e = .returned (.int .i64 2) ∧ w = w' := by
  have hno := Hd.mk (h)
  clear h
  go_enter Try.func35, Try.ntmps35
  go_wp2_with (first | (go_at_call 33; refine hno.out.mono ?_; rintro e w' ⟨rfl, rfl⟩))
  go_ret
  exact ⟨rfl, rfl⟩
theorem nn_at (h : Nn w v) (p s : Int) : Calls Try.prog 31 #[v, .int .i64 p, .int .i64 s] w fun e w' => e = .returned (.int .i64 2) ∧ w = w' := by
  have hno := Hd.mk (h)
  clear h
  go_enter Try.func31, Try.ntmps31
  go_wp2_with (first | (go_at_call 33; refine hno.out.mono ?_; rintro e w' ⟨rfl, rfl⟩))
  go_ret
  exact ⟨rfl, rfl⟩
theorem nn_read (h : Nn w v) (p : Int) : Calls Try.prog 17 #[v, .int .i64 p] w fun e w' => e = .returned (.tuple #[.slice none 0 0, .int .i64 2]) ∧ w = w' := by
  have hno := Hd.mk (nn_at h p 256)
  clear h
  go_enter Try.func17, Try.ntmps17
  go_wp2_with (first | (go_at_call 31; refine hno.out.mono ?_; rintro e w' ⟨rfl, rfl⟩))
  go_ret2
  exact ⟨rfl, rfl⟩
theorem nn_write (h : Nn w v) (p : Int) (A : Option Addr) (n c : Nat) : Calls Try.prog 12 #[v, .int .i64 p, .slice A n c] w fun e w' => e = .returned (.int .i64 2) ∧ w = w' := by
  have hno := Hd.mk (nn_at h p n)
  clear h
  go_enter Try.func12, Try.ntmps12
  go_wp2_with (first | (go_at_call 31; refine hno.out.mono ?_; rintro e w' ⟨rfl, rfl⟩))
  go_ret
  exact ⟨rfl, rfl⟩
theorem nn_sync (h : Nn w v) : Calls Try.prog 16 #[v] w fun e w' => e = .returned (.int .i64 2) ∧ w = w' := by
  have hno := Hd.mk (nn_power h)
  clear h
  go_enter Try.func16, Try.ntmps16
  go_wp2_with (first | (go_at_call 35; refine hno.out.mono ?_; rintro e w' ⟨rfl, rfl⟩))
  go_ret
  exact ⟨rfl, rfl⟩
theorem nn_arm (h : Nn w v) (p : Int) : Calls Try.prog 25 #[v, .int .i64 p] w fun e w' => e = .returned (.int .i64 2) ∧ w = w' := by
  have hno := Hd.mk (h)
  clear h
  go_enter Try.func25, Try.ntmps25
  go_wp2_with (first | (go_at_call 33; refine hno.out.mono ?_; rintro e w' ⟨rfl, rfl⟩))
  go_ret
  exact ⟨rfl, rfl⟩
theorem nn_calm (h : Nn w v) : Calls Try.prog 26 #[v] w fun e w' => e = .returned (.int .i64 2) ∧ w = w' := by
  have hno := Hd.mk (nn_power h)
  clear h
  go_enter Try.func26, Try.ntmps26
  go_wp2_with (first | (go_at_call 35; refine hno.out.mono ?_; rintro e w' ⟨rfl, rfl⟩))
  go_ret
  exact ⟨rfl, rfl⟩
theorem nn_crash (h : Nn w v) (u : Value) : Calls Try.prog 13 #[v, u] w fun e w' => e = .returned (.int .i64 2) ∧ w = w' := by
  have hno := Hd.mk (h)
  clear h
  go_enter Try.func13, Try.ntmps13
  go_wp2_with (first | (go_at_call 33; refine hno.out.mono ?_; rintro e w' ⟨rfl, rfl⟩))
  go_ret
  exact ⟨rfl, rfl⟩
theorem nn_load (h : Nn w v) (u : Value) : Calls Try.prog 27 #[v, u] w fun e w' => e = .returned (.int .i64 2) ∧ w = w' := by
  have hno := Hd.mk (h)
  clear h
  go_enter Try.func27, Try.ntmps27
  go_wp2_with (first | (go_at_call 33; refine hno.out.mono ?_; rintro e w' ⟨rfl, rfl⟩))
  go_ret
  exact ⟨rfl, rfl⟩
theorem nn_on (h : Nn w v) : Calls Try.prog 28 #[v] w fun e w' => e = .returned (.bool false) ∧ w = w' := by
  have hno := Hd.mk (nn_power h)
  clear h
  go_enter Try.func28, Try.ntmps28
  go_wp2_with (first | (go_at_call 35; refine hno.out.mono ?_; rintro e w' ⟨rfl, rfl⟩))
  go_ret
  exact ⟨rfl, rfl⟩
theorem nn_pages (h : Nn w v) : Calls Try.prog 29 #[v] w fun e w' => e = .returned (.int .i64 0) ∧ w = w' := by
  have hno := Hd.mk (h)
  clear h
  go_enter Try.func29, Try.ntmps29
  go_wp2_with (first | (go_at_call 33; refine hno.out.mono ?_; rintro e w' ⟨rfl, rfl⟩))
  go_ret
  exact ⟨rfl, rfl⟩
theorem nn_waits (h : Nn w v) : Calls Try.prog 18 #[v] w fun e w' => e = .returned (.int .i64 0) ∧ w = w' := by
  have hno := Hd.mk (h)
  clear h
  go_enter Try.func18, Try.ntmps18
  go_wp2_with (first | (go_at_call 33; refine hno.out.mono ?_; rintro e w' ⟨rfl, rfl⟩))
  go_ret
  exact ⟨rfl, rfl⟩
theorem nn_ops (h : Nn w v) : Calls Try.prog 30 #[v] w fun e w' => e = .returned (.int .i64 0) ∧ w = w' := by
  have hno := Hd.mk (h)
  clear h
  go_enter Try.func30, Try.ntmps30
  go_wp2_with (first | (go_at_call 33; refine hno.out.mono ?_; rintro e w' ⟨rfl, rfl⟩))
  go_ret
  exact ⟨rfl, rfl⟩
theorem nn_image (h : Nn w v) : Calls Try.prog 14 #[v] w fun e w' => e = .returned (.slice none 0 0) ∧ w = w' := by
  have hno := Hd.mk (h)
  clear h
  go_enter Try.func14, Try.ntmps14
  go_wp2_with (first | (go_at_call 33; refine hno.out.mono ?_; rintro e w' ⟨rfl, rfl⟩))
  go_ret
  exact ⟨rfl, rfl⟩
theorem nn_clone (h : Nn w v) : Calls Try.prog 20 #[v] w fun e w' => e = .returned (.pointer none) ∧ w = w' := by
  have hno := Hd.mk (h)
  clear h
  go_enter Try.func20, Try.ntmps20
  go_wp2_with (first | (go_at_call 33; refine hno.out.mono ?_; rintro e w' ⟨rfl, rfl⟩))
  go_ret
  exact ⟨rfl, rfl⟩
end
end Go.Proofs.Ytkcechpaeilaeaa
