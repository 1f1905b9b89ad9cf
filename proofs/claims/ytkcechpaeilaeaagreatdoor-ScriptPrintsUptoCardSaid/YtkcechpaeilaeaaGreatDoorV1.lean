/- The way with no folds and no stop words may be; its form. -/
import Derived.Test.YtkcechpaeilaeaaGreatDoorE2
namespace Go.Proofs.YtkcechpaeilaeaaGreatDoor
open Go.RowKit
set_option linter.unusedVariables false
set_option linter.unusedSimpArgs false
set_option maxRecDepth 100000

set_option maxHeartbeats 1000000 in
theorem foldcheck_nil (w : World) : Calls Tryz.prog 111 #[.slice none 0 0] w fun e w' => e = .returned (.int .i64 0) ∧ w = w' := by
  go_enter Tryz.func111, Tryz.ntmps111
  go_wp2_with fail
  go_loopw [14] (fun v14 wr => v14 = .int .i64 0 ∧ w = wr) (fun _ _ => 0)
  case atStart => exact ⟨rfl, rfl⟩
  case round =>
    obtain ⟨rfl, rfl⟩ := hrel
    go_wp2_with fail
    go_loopw [85] (fun v14 wr => v14 = .int .i64 0 ∧ w = wr) (fun _ _ => 0)
    case atStart => exact ⟨rfl, rfl⟩
    case round =>
      obtain ⟨rfl, rfl⟩ := hrel
      go_wp2_with fail
      go_ret
      exact ⟨rfl, rfl⟩
abbrev cf4 : Value := .agg #[.slice none 0 0, .slice none 0 0, .int .i64 4]
set_option maxHeartbeats 1000000 in
theorem folds_nil (w : World) : Calls Tryz.prog 112 #[cf4] w fun e w' => (∃ ad, e = .returned (.pointer (some ad))) ∧ Kp (fun _ => False) w w' := by
  go_enter Tryz.func112, Tryz.ntmps112
  go_wp2_with (with_reducible refine wl_run rfl (ex_makeMap _ 163 rfl) ?_)
  go_ret
  exact ⟨⟨_, rfl⟩, (((Kp.refl _ w).alloc _).alloc _).alloc _⟩
set_option maxHeartbeats 1000000 in
theorem wmay_nil (w : World) : Calls Tryz.prog 88 #[cf4] w fun e w' => e = .returned (.bool true) ∧ Kp (fun _ => False) w w' := by
  have K0 : Hd (Kp (fun _ => False) w (w.alloc (.cells #[.slice none 0 0, .slice none 0 0, .int .i64 4] 50))) := ⟨(Kp.refl _ w).alloc _⟩
  have c1 : ∀ w1, Kp (fun _ => False) (w.alloc (.cells #[.slice none 0 0, .slice none 0 0, .int .i64 4] 50)) w1 → w1.cell? ⟨w.heap.size, 1, none⟩ = some (.slice none 0 0) := fun w1 hk => hk.see (by rw [Lib.cell_of_heap (_root_.Go.heap_alloc_new w _)]; rfl) id
  have c1 := Hd.mk c1
  go_enter Tryz.func88, Tryz.ntmps88
  go_wp2_with (first | (go_at_call 111; refine (foldcheck_nil _).mono ?_; rintro e w1 ⟨rfl, rfl⟩; dsimp only) | (go_at_call 112; refine (folds_nil _).mono ?_; rintro e w1 ⟨⟨ad, rfl⟩, hk1⟩; have hc := c1.out _ hk1; have K1 := Hd.mk (K0.out.andThen hk1 (fun _ _ h => h)); clear hk1; dsimp only))
  go_loopw [31] (fun v14 wr => v14 = .int .i64 0 ∧ w1 = wr) (fun _ _ => 0)
  case atStart => exact ⟨rfl, rfl⟩
  case round =>
    obtain ⟨rfl, rfl⟩ := hrel
    go_wp2_with fail
    go_ret
    exact ⟨rfl, K1.out⟩
theorem wb_join {w0 w1 w2 w3 : World} {o : Obj} (h3 : Kp (fun _ => False) w0 w2) (h1 : Kp (fun _ => False) w0 (w1.alloc o)) (hb : Below w1.heap.size w2 w3) (hs : w0.heap.size ≤ w1.heap.size) : Kp (fun _ => False) w0 w3 :=
  Kp.of_below (h3.below.trans ⟨hb.os, hb.tape, hb.output, hb.size, fun k hk => hb.block k (Nat.lt_of_lt_of_le hk hs)⟩) _
set_option maxHeartbeats 1000000 in
theorem wbytes_nil (w : World) : Calls Tryz.prog 67 #[cf4] w fun e w' => (∃ v, e = .returned (.tuple #[v, .int .i64 0])) ∧ Kp (fun _ => False) w w' := by
  have K0 : Hd (Kp (fun _ => False) w (w.alloc (.cells #[.slice none 0 0, .slice none 0 0, .int .i64 4] 50))) := ⟨(Kp.refl _ w).alloc _⟩
  have cc : Hd (∀ w1, Kp (fun _ => False) (w.alloc (.cells #[.slice none 0 0, .slice none 0 0, .int .i64 4] 50)) w1 → w1.cell? ⟨w.heap.size, 0, none⟩ = some (.slice none 0 0) ∧ w1.cell? ⟨w.heap.size, 1, none⟩ = some (.slice none 0 0) ∧ w1.cell? ⟨w.heap.size, 2, none⟩ = some (.int .i64 4)) :=
    ⟨fun w1 hk => ⟨hk.see (by rw [Lib.cell_of_heap (_root_.Go.heap_alloc_new w _)]; rfl) id, hk.see (by rw [Lib.cell_of_heap (_root_.Go.heap_alloc_new w _)]; rfl) id, hk.see (by rw [Lib.cell_of_heap (_root_.Go.heap_alloc_new w _)]; rfl) id⟩⟩
  have ob2 : Hd (∀ w1 : World, Ob w1.heap.size (w1.alloc (.cells #[.int .u8 4, .int .u8 0] 5)) (.slice (some ⟨w1.heap.size, 0, none⟩) 2 2) [4, 0]) :=
    ⟨fun w1 => ⟨⟨rfl, .inr ⟨w1.heap.size, 2, #[.int .u8 4, .int .u8 0], rfl, Nat.zero_le _, _root_.Go.heap_alloc_new w1 _, Nat.le_refl _, by decide, rfl, rfl⟩⟩, fun k hk => by cases hk; exact Nat.le_refl _⟩⟩
  go_enter Tryz.func67, Tryz.ntmps67
  go_wp2_with (first | (go_at_call 88; refine (wmay_nil _).mono ?_; rintro e w1 ⟨rfl, hk1⟩; obtain ⟨d0, d1, d2⟩ := cc.out _ hk1; have hs0 := Hd.mk hk1.size; have hk2 := hk1.andThen ((Kp.refl (fun _ => False) w1).alloc (.cells #[.int .u8 4, .int .u8 0] 5)) (fun _ _ h => h); obtain ⟨f0, f1, f2⟩ := cc.out _ hk2; have K2 := Hd.mk (K0.out.andThen hk2 (fun _ _ h => h)); have hk2 := Hd.mk hk2; clear hk1; dsimp only))
  go_loopw [4, 24] (fun v4 v14 wr => v4 = .slice (some ⟨w1.heap.size, 0, none⟩) 2 2 ∧ v14 = .int .i64 0 ∧ (w1.alloc (.cells #[.int .u8 4, .int .u8 0] 5)) = wr) (fun _ _ _ => 0)
  case atStart => exact ⟨rfl, rfl, rfl⟩
  case round =>
    obtain ⟨rfl, rfl, rfl⟩ := hrel
    go_wp2_with (first | ((with_reducible refine wl_lit1 rfl (.tmp 49) rfl 0 rfl ?_); intro v1 w2 hv1 hk1; have ho := Hd.mk ((ob2.out w1).keep hk1); have hs : Hd (w1.heap.size ≤ w2.heap.size) := ⟨Nat.le_trans (by show _ ≤ (w1.heap.push _).size; simp) hk1.size⟩; have hk3 := hk2.out.andThen hk1 (fun _ _ h => h); have hv1 := Hd.mk hv1; have hk3 := Hd.mk hk3; clear hk1) | ((with_reducible refine wl_ob rfl (.tmp 45) (.tmp 50) rfl (.slice (some ⟨w1.heap.size, 0, none⟩) 2 2) [4, 0] rfl ho.out hs.out v1 [0] rfl hv1.out (by decide) ?_); intro v2 w3 hv2 hb2; obtain ⟨A2, c2, rfl, hc2⟩ := show ∃ A c, v2 = .slice A 3 c ∧ True from (by obtain ⟨A, c, e, _⟩ := hv2.bs; exact ⟨A, c, e, trivial⟩); have K3 : Hd (Kp (fun _ => False) (w.alloc (.cells #[.slice none 0 0, .slice none 0 0, .int .i64 4] 50)) w3) := ⟨wb_join hk3.out hk2.out hb2 hs0.out⟩; obtain ⟨g0, g1, g2⟩ := cc.out _ K3.out; have hv2 := Hd.mk hv2; clear hb2))
    go_loopw [4, 55] (fun v4 v14 wr => v4 = .slice A2 3 c2 ∧ v14 = .int .i64 0 ∧ w3 = wr) (fun _ _ _ => 0)
    case atStart => exact ⟨rfl, rfl, rfl⟩
    case round =>
      obtain ⟨rfl, rfl, rfl⟩ := hrel
      go_wp2_with fail
      go_ret2
      exact ⟨⟨_, rfl⟩, K0.out.andThen K3.out (fun _ _ h => h)⟩
end Go.Proofs.YtkcechpaeilaeaaGreatDoor
