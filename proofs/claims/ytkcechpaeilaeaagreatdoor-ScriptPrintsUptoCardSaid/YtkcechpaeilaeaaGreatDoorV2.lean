/- A script of one act that may be. -/
import Derived.Test.YtkcechpaeilaeaaGreatDoorV1
import Derived.Test.YtkcechpaeilaeaaGreatDoorM2
import Derived.Test.YtkcechpaeilaeaaGreatDoorL9
namespace Go.Proofs.YtkcechpaeilaeaaGreatDoor
open Go.RowKit
set_option linter.unusedVariables false
set_option linter.unusedSimpArgs false
set_option maxRecDepth 100000

theorem check1_at (a : A) (hm : may a) (w : World) (At : Option Addr) (ct : Nat) (Ap : Option Addr) (cp : Nat) :
    Calls Tryz.prog 68 #[.agg #[.int .i64 a.d, .string ⟨a.k.toArray⟩, .slice At a.t.length ct, .int .i64 a.n, .slice Ap a.p.length cp]] w fun e w' => e = .returned (.bool false) ∧ Kp (fun _ => False) w w' := by
  have hc := Hd.mk (may_at a)
  rw [decide_eq_true hm] at hc
  clear hm
  obtain ⟨d, k, t, n, p⟩ := a
  simp only at *
  go_enter Tryz.func68, Tryz.ntmps68
  go_wp2_with (go_at_call 38; refine (hc.out _ At ct Ap cp).mono ?_; rintro e w1 ⟨rfl, hk1⟩; have K1 : Hd (Kp (fun _ => False) w w1) := ⟨((Kp.refl _ w).alloc _).andThen hk1 (fun _ _ h => h)⟩; clear hk1; dsimp only)
  go_ret
  exact ⟨rfl, K1.out⟩
set_option maxHeartbeats 1000000 in
theorem idx_one (a : A) (hm : may a) (w : World) (b : Nat) (At : Option Addr) (ct : Nat) (Ap : Option Addr) (cp : Nat) (hr : w.rangeAt b 0 [.int .i64 a.d, .string ⟨a.k.toArray⟩, .slice At a.t.length ct, .int .i64 a.n, .slice Ap a.p.length cp]) :
    Calls Tryz.prog 91 #[.slice (some ⟨b, 0, none⟩) 1 1, .func (.func 68) #[] #[]] w fun e w' => e = .returned (.int .i64 (-1)) ∧ Kp (fun _ => False) w w' := by
  have hc := Hd.mk (check1_at a hm)
  obtain ⟨d, k, t, n, p⟩ := a
  simp only at *
  have hr := Hd.mk hr
  clear hm
  go_enter Tryz.func91, Tryz.ntmps91
  go_wp2_with fail
  go_loopw [4, 8] (fun v4 v8 wr => (v8 = .int .i64 0 ∧ w = wr ∧ v4 = .int .i64 0) ∨ (v8 = .int .i64 1 ∧ Hd (Kp (fun _ => False) w wr) ∧ v4 = .int .i64 0)) (fun _ v8 _ => 1 - (intOf v8).toNat)
  case atStart => exact .inl ⟨rfl, rfl, rfl⟩
  case round =>
    rcases hrel with ⟨rfl, rfl, rfl⟩ | ⟨rfl, hk, rfl⟩
    · go_wp2_with (first | (with_reducible refine wl_load_mid rfl 24 (.tmp 14) rfl b 0 rfl [.int .i64 d, .string ⟨k.toArray⟩, .slice At t.length ct, .int .i64 n, .slice Ap p.length cp] hr.out Tryz.underlying24 rfl (by kernel_rfl) ?_) | (go_at_call 68; refine (hc.out _ At ct Ap cp).mono ?_; rintro e w1 ⟨rfl, hk1⟩; have hk1 := Hd.mk hk1; dsimp only))
      exact ⟨.inr ⟨rfl, hk1, rfl⟩, by simp [intOf]⟩
    · go_wp2_with fail
      go_ret
      exact ⟨rfl, hk.out⟩
theorem contains_one (a : A) (hm : may a) (w : World) (b : Nat) (At : Option Addr) (ct : Nat) (Ap : Option Addr) (cp : Nat) (hr : w.rangeAt b 0 [.int .i64 a.d, .string ⟨a.k.toArray⟩, .slice At a.t.length ct, .int .i64 a.n, .slice Ap a.p.length cp]) :
    Calls Tryz.prog 69 #[.slice (some ⟨b, 0, none⟩) 1 1, .func (.func 68) #[] #[]] w fun e w' => e = .returned (.bool false) ∧ Kp (fun _ => False) w w' := by
  have hc := Hd.mk (idx_one a hm w b At ct Ap cp hr)
  clear hr hm
  go_enter Tryz.func69, Tryz.ntmps69
  go_wp2_with (go_at_call 91; refine hc.out.mono ?_; rintro e w1 ⟨rfl, hk1⟩; have hk1 := Hd.mk hk1; dsimp only)
  go_ret
  exact ⟨rfl, hk1.out⟩
/-- A script of one act. -/
abbrev sv (b : Nat) : Value := .agg #[.int .i64 9, .int .i64 3, .slice none 0 0, .slice none 0 0, .int .i64 4, .slice (some ⟨b, 0, none⟩) 1 1]
theorem range_keep {w w' : World} {b o : Nat} {cs : List Value} (h : w.rangeAt b o cs) (hk : Kp (fun _ => False) w w') : w'.rangeAt b o cs := fun j v hv => hk.see (h j v hv) id
set_option maxHeartbeats 1000000 in
theorem scheck_one (a : A) (hm : may a) (w : World) (b : Nat) (At : Option Addr) (ct : Nat) (Ap : Option Addr) (cp : Nat) (hr : w.rangeAt b 0 [.int .i64 a.d, .string ⟨a.k.toArray⟩, .slice At a.t.length ct, .int .i64 a.n, .slice Ap a.p.length cp]) :
    Calls Tryz.prog 26 #[sv b] w fun e w' => e = .returned (.int .i64 0) ∧ Kp (fun _ => False) w w' := by
  have K0 : Hd (Kp (fun _ => False) w (w.alloc (.cells #[.int .i64 9, .int .i64 3, .slice none 0 0, .slice none 0 0, .int .i64 4, .slice (some ⟨b, 0, none⟩) 1 1] 53))) := ⟨(Kp.refl _ w).alloc _⟩
  have cc : Hd (∀ w1, Kp (fun _ => False) (w.alloc (.cells #[.int .i64 9, .int .i64 3, .slice none 0 0, .slice none 0 0, .int .i64 4, .slice (some ⟨b, 0, none⟩) 1 1] 53)) w1 → w1.cell? ⟨w.heap.size, 0, none⟩ = some (.int .i64 9) ∧ w1.cell? ⟨w.heap.size, 1, none⟩ = some (.int .i64 3) ∧ w1.cell? ⟨w.heap.size, 5, none⟩ = some (.slice (some ⟨b, 0, none⟩) 1 1)) :=
    ⟨fun w1 hk => ⟨hk.see (by rw [Lib.cell_of_heap (_root_.Go.heap_alloc_new w _)]; rfl) id, hk.see (by rw [Lib.cell_of_heap (_root_.Go.heap_alloc_new w _)]; rfl) id, hk.see (by rw [Lib.cell_of_heap (_root_.Go.heap_alloc_new w _)]; rfl) id⟩⟩
  have hc := Hd.mk (fun w1 (hk : Kp (fun _ => False) w w1) => contains_one a hm w1 b At ct Ap cp (range_keep hr hk))
  clear hr hm
  go_enter Tryz.func26, Tryz.ntmps26
  go_wp2_with (first | (go_at_call 67; refine (wbytes_nil _).mono ?_; rintro e w1 ⟨⟨vb, rfl⟩, hk1⟩; obtain ⟨d0, d1, d2⟩ := cc.out _ hk1; have K1 := Hd.mk (K0.out.andThen hk1 (fun _ _ h => h)); clear hk1; dsimp only) | (go_at_call 69; refine (hc.out _ K1.out).mono ?_; rintro e w2 ⟨rfl, hk2⟩; have K2 := Hd.mk (K1.out.andThen hk2 (fun _ _ h => h)); clear hk2; dsimp only))
  go_ret
  exact ⟨rfl, K2.out⟩
end Go.Proofs.YtkcechpaeilaeaaGreatDoor
