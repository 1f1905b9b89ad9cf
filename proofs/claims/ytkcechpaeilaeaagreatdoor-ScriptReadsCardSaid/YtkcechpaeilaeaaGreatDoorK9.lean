/- Joined out of: M3. -/
import Derived.Test.YtkcechpaeilaeaaGreatDoorK4
set_option linter.unusedVariables false
set_option linter.unusedSimpArgs false
namespace Go.Proofs.YtkcechpaeilaeaaGreatDoor
open Go.RowKit
set_option maxRecDepth 100000
set_option maxHeartbeats 4000000 in
theorem rmay_at (a : A) (w : World) (At : Option Addr) (ct : Nat) (Ap : Option Addr) (cp : Nat) :
  Calls Tryz.prog 44 #[.agg #[.int .i64 a.d, .string ⟨a.k.toArray⟩, .slice At a.t.length ct, .int .i64 a.n, .slice Ap a.p.length cp]] w fun e w' => e = .returned (.bool (decide (may a))) ∧ KZ w w' := by
 obtain ⟨d, k, t, n, p⟩ := a
 simp only at *
 obtain ⟨R, hR⟩ : ∃ b, Hd (decide (may ⟨d, k, t, n, p⟩) = b) := ⟨_, ⟨rfl⟩⟩
 rw [hR.out]
 have F0 : Hd (Fa (w.alloc (.cells #[.int .i64 d, .string ⟨k.toArray⟩, .slice At t.length ct, .int .i64 n, .slice Ap p.length cp] 24)) w.heap.size (.int .i64 d) (.string ⟨k.toArray⟩) (.slice At t.length ct) (.int .i64 n) (.slice Ap p.length cp) ∧ KZ w (w.alloc (.cells #[.int .i64 d, .string ⟨k.toArray⟩, .slice At t.length ct, .int .i64 n, .slice Ap p.length cp] 24))) := ⟨Fa.new _ _ _ _ _ _, (Kp.refl _ w).alloc _⟩
 obtain ⟨hkd, ehk⟩ : ∃ b, Hd (hk d = b) := ⟨_, ⟨rfl⟩⟩
 obtain ⟨htd, eht⟩ : ∃ b, Hd (ht d = b) := ⟨_, ⟨rfl⟩⟩
 obtain ⟨hnd, ehn⟩ : ∃ b, Hd (hn d = b) := ⟨_, ⟨rfl⟩⟩
 go_enter Tryz.func44, Tryz.ntmps44
 go_wp2_with fail
 rotate_right
 rotate_left
 all_goals (try (go_ret; refine ⟨congrArg (fun b => Ending.returned (.bool b)) (Eq.symm ?_), F0.out.2⟩; rw [← hR.out]; refine decide_eq_false (fun h => ?_); have h1 : 1 ≤ d := h.1; have h2 : d ≤ 14 := h.2.1; have h3 : k.length ≤ 2000 := h.2.2.1; have h4 : t.length ≤ 2000 := h.2.2.2.1; have h5 : p.length ≤ 200 := h.2.2.2.2.1; have h6 : 0 ≤ n := h.2.2.2.2.2.1; have h7 : n ≤ 1048576 := h.2.2.2.2.2.2.1; clear h; omega))
 ·have hx : True := trivial
  refine wq_begin (fun W => KZ (w.alloc (.cells #[.int .i64 d, .string ⟨k.toArray⟩, .slice At t.length ct, .int .i64 n, .slice Ap p.length cp] 24)) W) (by kernel_rfl) (by kernel_rfl) ((Kp.refl _ _).drew) ?_
  refine wq_run (v := .pointer (some ⟨w.heap.size, 1, none⟩)) rfl (fun W hW => er_field W 24 1 _ rfl w.heap.size 0 0 1 1 (by first | rfl | omega) Tryz.underlying24 rfl (by kernel_rfl) rfl rfl) ?_
  simp only [Act.put, uA, uB, uC]
  refine wq_run (v := .string ⟨(k).toArray⟩) rfl (fun W hW => ex_load W 9 _ _ rfl ⟨w.heap.size, 1, none⟩ U9 rfl rfl ((F0.out.1.keep hW).c1)) ?_
  simp only [Act.put, uA, uB, uC]
  refine wq_run (v := .int .i64 ((k.length : Nat) : Int)) rfl (fun W hW => ex_slen W 9 _ rfl U9 k rfl) ?_
  simp only [Act.put, uA, uB, uC]
  obtain ⟨b42, e42⟩ : ∃ b, Hd (b = decide ((0 : Int) < ((k.length : Nat) : Int))) := ⟨_, ⟨rfl⟩⟩
  refine wq_run (v := .bool b42) rfl (fun W hW => ex_gtr W 3 _ _ _ rfl .i64 ((k.length : Nat) : Int) 0 rfl rfl b42 e42.out.symm) ?_
  simp only [Act.put, uA, uB, uC]
  refine wq_run (v := .pointer (some ⟨w.heap.size, 0, none⟩)) rfl (fun W hW => er_field W 24 0 _ rfl w.heap.size 0 0 0 0 (by first | rfl | omega) Tryz.underlying24 rfl (by kernel_rfl) rfl rfl) ?_
  simp only [Act.put, uA, uB, uC]
  refine wq_run (v := .int .i64 (d)) rfl (fun W hW => ex_load W 3 _ _ rfl ⟨w.heap.size, 0, none⟩ U3 rfl rfl ((F0.out.1.keep hW).c0)) ?_
  simp only [Act.put, uA, uB, uC]
  refine wq_call 46 _ _ rfl Tryz.func46 (by kernel_rfl) (by kernel_rfl) rfl [.int .i64 (d)] rfl (.bool hkd) (fun W hW => (rk_at d W).mono (fun e w' h => ⟨by rw [← ehk.out]; exact h.1, h.2 ▸ hW⟩)) ?_
  simp only [Act.put, uA, uB, uC]
  obtain ⟨b46, e46⟩ : ∃ b, Hd (b = (b42 == hkd)) := ⟨_, ⟨rfl⟩⟩
  refine wq_run (v := .bool b46) rfl (fun W hW => ex_eqlB W 4 _ _ _ rfl Tryz.underlying4 _ _ rfl rfl b46 e46.out.symm) ?_
  simp only [Act.put, uA, uB, uC]
  refine wq_run (v := .bool b46) rfl (rnM rfl rfl) ?_
  simp only [Act.put, uA, uB, uC]
  refine wq_G (b46) (v := .pointer (some ⟨w.heap.size, 2, none⟩)) (by intro h; cases b46 <;> first | rfl | cases h) (by intro h; cases b46 <;> first | rfl | cases h) (by intro h W hW; cases b46 <;> first | (simp at h; done) | exact er_field W 24 2 _ rfl w.heap.size 0 0 2 2 (by first | rfl | omega) Tryz.underlying24 rfl (by kernel_rfl) rfl rfl) ?_
  simp only [Act.put, uA, uB, uC]
  refine wq_G (b46) (v := .slice At t.length ct) (by intro h; cases b46 <;> first | rfl | cases h) (by intro h; cases b46 <;> first | rfl | cases h) (by intro h W hW; cases b46 <;> first | (simp at h; done) | exact ex_load W 22 _ _ rfl ⟨w.heap.size, 2, none⟩ U22 rfl rfl ((F0.out.1.keep hW).c2)) ?_
  simp only [Act.put, uA, uB, uC]
  refine wq_G (b46) (v := .int .i64 ((t.length : Nat) : Int)) (by intro h; cases b46 <;> first | rfl | cases h) (by intro h; cases b46 <;> first | rfl | cases h) (by intro h W hW; cases b46 <;> first | (simp at h; done) | exact ex_len W 22 _ rfl U22 _ t.length ct rfl) ?_
  simp only [Act.put, uA, uB, uC]
  obtain ⟨b51, e51⟩ : ∃ b, Hd (b = decide ((((t.length : Nat) : Int) : Int) = 0)) := ⟨_, ⟨rfl⟩⟩
  refine wq_G (b46) (v := .bool b51) (by intro h; cases b46 <;> first | rfl | cases h) (by intro h; cases b46 <;> first | rfl | cases h) (by intro h W hW; cases b46 <;> first | (simp at h; done) | exact ex_eql W 3 _ _ _ rfl .i64 ((t.length : Nat) : Int) 0 rfl rfl b51 e51.out.symm) ?_
  simp only [Act.put, uA, uB, uC]
  refine wq_G (b46) (v := .bool b51) (by intro h; cases b46 <;> first | rfl | cases h) (by intro h; cases b46 <;> first | rfl | cases h) (by intro h W hW; cases b46 <;> first | (simp at h; done) | exact ex_move W _ _ rfl rfl) ?_
  simp only [Act.put, uA, uB, uC]
  refine wq_G (b46 && !b51) (v := .pointer (some ⟨w.heap.size, 0, none⟩)) (by intro h; cases b46 <;> cases b51 <;> first | rfl | cases h) (by intro h; cases b46 <;> cases b51 <;> first | rfl | cases h) (by intro h W hW; cases b46 <;> cases b51 <;> first | (simp at h; done) | exact er_field W 24 0 _ rfl w.heap.size 0 0 0 0 (by first | rfl | omega) Tryz.underlying24 rfl (by kernel_rfl) rfl rfl) ?_
  simp only [Act.put, uA, uB, uC]
  refine wq_G (b46 && !b51) (v := .int .i64 (d)) (by intro h; cases b46 <;> cases b51 <;> first | rfl | cases h) (by intro h; cases b46 <;> cases b51 <;> first | rfl | cases h) (by intro h W hW; cases b46 <;> cases b51 <;> first | (simp at h; done) | exact ex_load W 3 _ _ rfl ⟨w.heap.size, 0, none⟩ U3 rfl rfl ((F0.out.1.keep hW).c0)) ?_
  simp only [Act.put, uA, uB, uC]
  refine wq_callG (b46 && !b51) 49 _ _ rfl Tryz.func49 (by kernel_rfl) (by kernel_rfl) (by intro h; cases b46 <;> cases b51 <;> first | rfl | cases h) (by intro h; cases b46 <;> cases b51 <;> first | rfl | cases h) [.int .i64 (d)] (by intro h; cases b46 <;> cases b51 <;> first | (simp at h; done) | rfl) (.bool htd) (fun _ => fun W hW => (rt_at d W).mono (fun e w' h => ⟨by rw [← eht.out]; exact h.1, h.2 ▸ hW⟩)) ?_
  simp only [Act.put, uA, uB, uC]
  obtain ⟨b56, e56⟩ : ∃ b, Hd (b = (b51 || htd)) := ⟨_, ⟨rfl⟩⟩
  refine wq_G (b46) (v := .bool b56) (by intro h; cases b46 <;> first | rfl | cases h) (by intro h; cases b46 <;> first | rfl | cases h) (by intro h W hW; cases b46 <;> first | (simp at h; done) | exact ex_pick W _ _ _ rfl b51 _ rfl (by rw [e56.out]; cases b51 <;> rfl)) ?_
  simp only [Act.put, uA, uB, uC]
  obtain ⟨b57, e57⟩ : ∃ b, Hd (b = (b46 && b56)) := ⟨_, ⟨rfl⟩⟩
  refine wq_run (v := .bool b57) rfl (fun W hW => ex_pick W _ _ _ rfl b46 _ rfl (by rw [e57.out]; cases b46 <;> rfl)) ?_
  simp only [Act.put, uA, uB, uC]
  refine wq_run (v := .bool b57) rfl (rnM rfl rfl) ?_
  simp only [Act.put, uA, uB, uC]
  refine wq_G (b57) (v := .pointer (some ⟨w.heap.size, 3, none⟩)) (by intro h; cases b57 <;> first | rfl | cases h) (by intro h; cases b57 <;> first | rfl | cases h) (by intro h W hW; cases b57 <;> first | (simp at h; done) | exact er_field W 24 3 _ rfl w.heap.size 0 0 3 3 (by first | rfl | omega) Tryz.underlying24 rfl (by kernel_rfl) rfl rfl) ?_
  simp only [Act.put, uA, uB, uC]
  refine wq_G (b57) (v := .int .i64 (n)) (by intro h; cases b57 <;> first | rfl | cases h) (by intro h; cases b57 <;> first | rfl | cases h) (by intro h W hW; cases b57 <;> first | (simp at h; done) | exact ex_load W 3 _ _ rfl ⟨w.heap.size, 3, none⟩ U3 rfl rfl ((F0.out.1.keep hW).c3)) ?_
  simp only [Act.put, uA, uB, uC]
  obtain ⟨b61, e61⟩ : ∃ b, Hd (b = decide ((n : Int) = 0)) := ⟨_, ⟨rfl⟩⟩
  refine wq_G (b57) (v := .bool b61) (by intro h; cases b57 <;> first | rfl | cases h) (by intro h; cases b57 <;> first | rfl | cases h) (by intro h W hW; cases b57 <;> first | (simp at h; done) | exact ex_eql W 3 _ _ _ rfl .i64 n 0 rfl rfl b61 e61.out.symm) ?_
  simp only [Act.put, uA, uB, uC]
  refine wq_G (b57) (v := .bool b61) (by intro h; cases b57 <;> first | rfl | cases h) (by intro h; cases b57 <;> first | rfl | cases h) (by intro h W hW; cases b57 <;> first | (simp at h; done) | exact ex_move W _ _ rfl rfl) ?_
  simp only [Act.put, uA, uB, uC]
  refine wq_G (b57 && !b61) (v := .pointer (some ⟨w.heap.size, 0, none⟩)) (by intro h; cases b57 <;> cases b61 <;> first | rfl | cases h) (by intro h; cases b57 <;> cases b61 <;> first | rfl | cases h) (by intro h W hW; cases b57 <;> cases b61 <;> first | (simp at h; done) | exact er_field W 24 0 _ rfl w.heap.size 0 0 0 0 (by first | rfl | omega) Tryz.underlying24 rfl (by kernel_rfl) rfl rfl) ?_
  simp only [Act.put, uA, uB, uC]
  refine wq_G (b57 && !b61) (v := .int .i64 (d)) (by intro h; cases b57 <;> cases b61 <;> first | rfl | cases h) (by intro h; cases b57 <;> cases b61 <;> first | rfl | cases h) (by intro h W hW; cases b57 <;> cases b61 <;> first | (simp at h; done) | exact ex_load W 3 _ _ rfl ⟨w.heap.size, 0, none⟩ U3 rfl rfl ((F0.out.1.keep hW).c0)) ?_
  simp only [Act.put, uA, uB, uC]
  refine wq_callG (b57 && !b61) 47 _ _ rfl Tryz.func47 (by kernel_rfl) (by kernel_rfl) (by intro h; cases b57 <;> cases b61 <;> first | rfl | cases h) (by intro h; cases b57 <;> cases b61 <;> first | rfl | cases h) [.int .i64 (d)] (by intro h; cases b57 <;> cases b61 <;> first | (simp at h; done) | rfl) (.bool hnd) (fun _ => fun W hW => (rn_at d W).mono (fun e w' h => ⟨by rw [← ehn.out]; exact h.1, h.2 ▸ hW⟩)) ?_
  simp only [Act.put, uA, uB, uC]
  obtain ⟨b66, e66⟩ : ∃ b, Hd (b = (b61 || hnd)) := ⟨_, ⟨rfl⟩⟩
  refine wq_G (b57) (v := .bool b66) (by intro h; cases b57 <;> first | rfl | cases h) (by intro h; cases b57 <;> first | rfl | cases h) (by intro h W hW; cases b57 <;> first | (simp at h; done) | exact ex_pick W _ _ _ rfl b61 _ rfl (by rw [e66.out]; cases b61 <;> rfl)) ?_
  simp only [Act.put, uA, uB, uC]
  obtain ⟨b67, e67⟩ : ∃ b, Hd (b = (b57 && b66)) := ⟨_, ⟨rfl⟩⟩
  refine wq_run (v := .bool b67) rfl (fun W hW => ex_pick W _ _ _ rfl b57 _ rfl (by rw [e67.out]; cases b57 <;> rfl)) ?_
  simp only [Act.put, uA, uB, uC]
  refine wq_run (v := .bool b67) rfl (rnM rfl rfl) ?_
  simp only [Act.put, uA, uB, uC]
  refine wq_G (b67) (v := .pointer (some ⟨w.heap.size, 4, none⟩)) (by intro h; cases b67 <;> first | rfl | cases h) (by intro h; cases b67 <;> first | rfl | cases h) (by intro h W hW; cases b67 <;> first | (simp at h; done) | exact er_field W 24 4 _ rfl w.heap.size 0 0 4 4 (by first | rfl | omega) Tryz.underlying24 rfl (by kernel_rfl) rfl rfl) ?_
  simp only [Act.put, uA, uB, uC]
  refine wq_G (b67) (v := .slice Ap p.length cp) (by intro h; cases b67 <;> first | rfl | cases h) (by intro h; cases b67 <;> first | rfl | cases h) (by intro h W hW; cases b67 <;> first | (simp at h; done) | exact ex_load W 22 _ _ rfl ⟨w.heap.size, 4, none⟩ U22 rfl rfl ((F0.out.1.keep hW).c4)) ?_
  simp only [Act.put, uA, uB, uC]
  refine wq_G (b67) (v := .int .i64 ((p.length : Nat) : Int)) (by intro h; cases b67 <;> first | rfl | cases h) (by intro h; cases b67 <;> first | rfl | cases h) (by intro h W hW; cases b67 <;> first | (simp at h; done) | exact ex_len W 22 _ rfl U22 _ p.length cp rfl) ?_
  simp only [Act.put, uA, uB, uC]
  obtain ⟨b72, e72⟩ : ∃ b, Hd (b = decide ((((p.length : Nat) : Int) : Int) = 0)) := ⟨_, ⟨rfl⟩⟩
  refine wq_G (b67) (v := .bool b72) (by intro h; cases b67 <;> first | rfl | cases h) (by intro h; cases b67 <;> first | rfl | cases h) (by intro h W hW; cases b67 <;> first | (simp at h; done) | exact ex_eql W 3 _ _ _ rfl .i64 ((p.length : Nat) : Int) 0 rfl rfl b72 e72.out.symm) ?_
  simp only [Act.put, uA, uB, uC]
  refine wq_G (b67) (v := .bool b72) (by intro h; cases b67 <;> first | rfl | cases h) (by intro h; cases b67 <;> first | rfl | cases h) (by intro h W hW; cases b67 <;> first | (simp at h; done) | exact ex_move W _ _ rfl rfl) ?_
  simp only [Act.put, uA, uB, uC]
  refine wq_G (b67 && !b72) (v := .pointer (some ⟨w.heap.size, 0, none⟩)) (by intro h; cases b67 <;> cases b72 <;> first | rfl | cases h) (by intro h; cases b67 <;> cases b72 <;> first | rfl | cases h) (by intro h W hW; cases b67 <;> cases b72 <;> first | (simp at h; done) | exact er_field W 24 0 _ rfl w.heap.size 0 0 0 0 (by first | rfl | omega) Tryz.underlying24 rfl (by kernel_rfl) rfl rfl) ?_
  simp only [Act.put, uA, uB, uC]
  refine wq_G (b67 && !b72) (v := .int .i64 (d)) (by intro h; cases b67 <;> cases b72 <;> first | rfl | cases h) (by intro h; cases b67 <;> cases b72 <;> first | rfl | cases h) (by intro h W hW; cases b67 <;> cases b72 <;> first | (simp at h; done) | exact ex_load W 3 _ _ rfl ⟨w.heap.size, 0, none⟩ U3 rfl rfl ((F0.out.1.keep hW).c0)) ?_
  simp only [Act.put, uA, uB, uC]
  obtain ⟨b76, e76⟩ : ∃ b, Hd (b = decide ((d : Int) = 12)) := ⟨_, ⟨rfl⟩⟩
  refine wq_G (b67 && !b72) (v := .bool b76) (by intro h; cases b67 <;> cases b72 <;> first | rfl | cases h) (by intro h; cases b67 <;> cases b72 <;> first | rfl | cases h) (by intro h W hW; cases b67 <;> cases b72 <;> first | (simp at h; done) | exact ex_eql W 3 _ _ _ rfl .i64 d 12 rfl rfl b76 e76.out.symm) ?_
  simp only [Act.put, uA, uB, uC]
  obtain ⟨b77, e77⟩ : ∃ b, Hd (b = (b72 || b76)) := ⟨_, ⟨rfl⟩⟩
  refine wq_G (b67) (v := .bool b77) (by intro h; cases b67 <;> first | rfl | cases h) (by intro h; cases b67 <;> first | rfl | cases h) (by intro h W hW; cases b67 <;> first | (simp at h; done) | exact ex_pick W _ _ _ rfl b72 _ rfl (by rw [e77.out]; cases b72 <;> rfl)) ?_
  simp only [Act.put, uA, uB, uC]
  obtain ⟨b78, e78⟩ : ∃ b, Hd (b = (b67 && b77)) := ⟨_, ⟨rfl⟩⟩
  refine wq_run (v := .bool b78) rfl (fun W hW => ex_pick W _ _ _ rfl b67 _ rfl (by rw [e78.out]; cases b67 <;> rfl)) ?_
  simp only [Act.put, uA, uB, uC]
  refine wq_run (v := .bool b78) rfl (fun W hW => ex_assign W _ _ rfl rfl) ?_
  simp only [Act.put, uA, uB, uC]
  refine wpQuiet_nil ?_
  intro w2 hw2
  have hw2 := Hd.mk hw2
  go_wp2_with fail
  go_ret
  refine ⟨congrArg (fun b => Ending.returned (.bool b)) ?_, F0.out.2.th hw2.out⟩
  rw [← hR.out, rmay_bool (by omega) (by omega) (by omega) (by omega) (by omega) (by omega) (by omega), ehk.out, eht.out, ehn.out]
  simp only [e78.out, e77.out, e76.out, e72.out, e67.out, e66.out, e61.out, e57.out, e56.out, e51.out, e46.out, e42.out]
end Go.Proofs.YtkcechpaeilaeaaGreatDoor
