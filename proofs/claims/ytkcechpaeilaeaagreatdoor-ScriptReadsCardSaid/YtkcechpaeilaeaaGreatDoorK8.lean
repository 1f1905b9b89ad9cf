/- Joined out of: M2 L9. -/
import Derived.Test.YtkcechpaeilaeaaGreatDoorK4
import Derived.Test.YtkcechpaeilaeaaGreatDoorK5
import Derived.Test.YtkcechpaeilaeaaGreatDoorK6
set_option linter.unusedVariables false
set_option linter.unusedSimpArgs false
namespace Go.Proofs.YtkcechpaeilaeaaGreatDoor
open Go.RowKit
set_option maxRecDepth 100000
set_option maxHeartbeats 4000000 in
theorem may_at (a : A) (w : World) (At : Option Addr) (ct : Nat) (Ap : Option Addr) (cp : Nat) :
  Calls Tryz.prog 38 #[.agg #[.int .i64 a.d, .string ⟨a.k.toArray⟩, .slice At a.t.length ct, .int .i64 a.n, .slice Ap a.p.length cp]] w fun e w' => e = .returned (.bool (decide (may a))) ∧ KZ w w' := by
 obtain ⟨d, k, t, n, p⟩ := a
 simp only at *
 rw [may_bool]
 have F0 := Hd.mk (Fa.new w (.int .i64 d) (.string ⟨k.toArray⟩) (.slice At t.length ct) (.int .i64 n) (.slice Ap p.length cp))
 have hna := Hd.mk (name_at d)
 obtain ⟨b1, e1⟩ : ∃ b, Hd ((nm d == []) = b) := ⟨_, ⟨rfl⟩⟩
 obtain ⟨hkd, ehk⟩ : ∃ b, Hd (hk d = b) := ⟨_, ⟨rfl⟩⟩
 obtain ⟨htd, eht⟩ : ∃ b, Hd (ht d = b) := ⟨_, ⟨rfl⟩⟩
 obtain ⟨hnd, ehn⟩ : ∃ b, Hd (hn d = b) := ⟨_, ⟨rfl⟩⟩
 obtain ⟨y14, ey⟩ : ∃ b, Hd ((hkd != (k != [])) = b) := ⟨_, ⟨rfl⟩⟩
 obtain ⟨x3, e3⟩ : ∃ b, Hd (decide ((2000 : Int) < (k.length : Int)) = b) := ⟨_, ⟨rfl⟩⟩
 obtain ⟨x4, e4⟩ : ∃ b, Hd (decide ((2000 : Int) < (t.length : Int)) = b) := ⟨_, ⟨rfl⟩⟩
 obtain ⟨x5, e5⟩ : ∃ b, Hd (decide ((0 : Int) < (t.length : Int)) = b) := ⟨_, ⟨rfl⟩⟩
 obtain ⟨x6, e6⟩ : ∃ b, Hd (decide (n ≠ 0) = b) := ⟨_, ⟨rfl⟩⟩
 obtain ⟨x7, e7⟩ : ∃ b, Hd (decide (n < 0) = b) := ⟨_, ⟨rfl⟩⟩
 obtain ⟨x8, e8⟩ : ∃ b, Hd (decide (1048576 < n) = b) := ⟨_, ⟨rfl⟩⟩
 obtain ⟨x9, e9⟩ : ∃ b, Hd (decide ((p.length : Int) ≤ 200) = b) := ⟨_, ⟨rfl⟩⟩
 obtain ⟨x10, e10⟩ : ∃ b, Hd (decide (d = 12) = b) := ⟨_, ⟨rfl⟩⟩
 obtain ⟨x11, e11⟩ : ∃ b, Hd (decide ((p.length : Int) = 0) = b) := ⟨_, ⟨rfl⟩⟩
 rw [e1.out, ehk.out, eht.out, ehn.out, ey.out, e3.out, e4.out, e5.out, e6.out, e7.out, e8.out, e9.out, e10.out, e11.out]
 go_enter Tryz.func38, Tryz.ntmps38
 cases b1
 ·go_wp2_with (first | (go_at_call 39; refine (hna.out _).mono ?_; rintro e w1 ⟨rfl, hk1⟩; have F1 := Hd.mk (F0.out.keep hk1); have K1 : Hd (KZ w w1) := ⟨((Kp.refl _ w).alloc _).th hk1⟩; clear hk1; dsimp only) | ((with_reducible refine wl_run rfl (ex_seql _ 9 9 (.tmp 6) (.const (.string ⟨#[]⟩)) rfl (nm d) [] false e1.out rfl rfl) ?_)))
  refine wq_begin (fun W => KZ w1 W) (by kernel_rfl) (by kernel_rfl) ((Kp.refl _ w1).drew) ?_
  refine wq_run (v := .pointer (some ⟨w.heap.size, 0, none⟩)) rfl (fun W hW => er_field W 24 0 _ rfl w.heap.size 0 0 0 0 (by first | rfl | omega) Tryz.underlying24 rfl (by kernel_rfl) rfl rfl) ?_
  simp only [Act.put, uA, uB, uC]
  refine wq_run (v := .int .i64 (d)) rfl (fun W hW => ex_load W 3 _ _ rfl ⟨w.heap.size, 0, none⟩ U3 rfl rfl ((F1.out.keep hW).c0)) ?_
  simp only [Act.put, uA, uB, uC]
  refine wq_call 42 _ _ rfl Tryz.func42 (by kernel_rfl) (by kernel_rfl) rfl [.int .i64 (d)] rfl (.bool hkd) (fun W hW => (hk_at d W).mono (fun e w' h => ⟨by rw [← ehk.out]; exact h.1, h.2 ▸ hW⟩)) ?_
  simp only [Act.put, uA, uB, uC]
  refine wq_run (v := .pointer (some ⟨w.heap.size, 1, none⟩)) rfl (fun W hW => er_field W 24 1 _ rfl w.heap.size 0 0 1 1 (by first | rfl | omega) Tryz.underlying24 rfl (by kernel_rfl) rfl rfl) ?_
  simp only [Act.put, uA, uB, uC]
  refine wq_run (v := .string ⟨(k).toArray⟩) rfl (fun W hW => ex_load W 9 _ _ rfl ⟨w.heap.size, 1, none⟩ U9 rfl rfl ((F1.out.keep hW).c1)) ?_
  simp only [Act.put, uA, uB, uC]
  obtain ⟨b13, e13⟩ : ∃ b, Hd (b = (k != ([] : List UInt8))) := ⟨_, ⟨rfl⟩⟩
  refine wq_run (v := .bool b13) rfl (fun W hW => ex_sneq W 9 _ _ _ rfl k ([]) b13 e13.out.symm rfl rfl) ?_
  simp only [Act.put, uA, uB, uC]
  obtain ⟨b14, e14⟩ : ∃ b, Hd (b = (hkd != b13)) := ⟨_, ⟨rfl⟩⟩
  refine wq_run (v := .bool b14) rfl (fun W hW => ex_neqB W 4 _ _ _ rfl Tryz.underlying4 _ _ rfl rfl b14 e14.out.symm) ?_
  simp only [Act.put, uA, uB, uC]
  refine wq_run (v := .bool b14) rfl (fun W hW => ex_assign W _ _ rfl rfl) ?_
  simp only [Act.put, uA, uB, uC]
  refine wpQuiet_nil ?_
  intro w2 hw2
  have F2 := Hd.mk (F1.out.keep hw2)
  have K2 := Hd.mk (K1.out.th hw2)
  clear hw2 F1 K1
  rw [e13.out] at e14
  have F20 := F2.out.c0
  have F21 := F2.out.c1
  have F22 := F2.out.c2
  have F23 := F2.out.c3
  have F24 := F2.out.c4
  have : b14 = y14 := by rw [e14.out, ey.out]
  subst this
  clear F0 hna e1 F2 ehk e13
  have n1 : x6 = false → x7 = false ∧ x8 = false := fun h => by
   have n0 : n = 0 := by rw [h] at e6; simpa using e6.out
   rw [← e7.out, ← e8.out, n0]
   exact ⟨rfl, rfl⟩
  clear ey e14
  cases b14
  ·cases x3
   ·cases x4
    ·cases htd
     ·cases x5
      ·skip
       cases hnd
       ·cases x6
        ·skip
         obtain ⟨rfl, rfl⟩ := n1 rfl
         cases x9
         ·go_wp2_with (first | (with_reducible refine wl_run rfl (ex_slen _ 9 _ rfl rfl k rfl) ?_) | ((with_reducible refine wl_run rfl (ex_gtr _ 3 3 (.tmp 17) (.const (.int .i64 2000)) rfl .i64 (k.length : Int) 2000 rfl rfl _ e3.out) ?_)) | ((with_reducible refine wl_run rfl (ex_gtr _ 3 3 (.tmp 21) (.const (.int .i64 2000)) rfl .i64 (t.length : Int) 2000 rfl rfl _ e4.out) ?_)) | ((with_reducible refine wl_runG ?hw (ex_gtr _ 3 3 (.tmp 31) (.const (.int .i64 0)) rfl .i64 (t.length : Int) 0 rfl rfl _ e5.out) ?_); (case hw => rfl)) | ((with_reducible refine wl_runG ?hw (ex_neq _ 3 3 (.tmp 40) (.const (.int .i64 0)) rfl .i64 n 0 rfl rfl _ e6.out) ?_); (case hw => rfl)) | ((with_reducible refine wl_run rfl (ex_lss _ 3 3 (.tmp 44) (.const (.int .i64 0)) rfl .i64 n 0 rfl rfl _ e7.out) ?_)) | ((with_reducible refine wl_run rfl (ex_gtr _ 3 3 (.tmp 47) (.const (.int .i64 1048576)) rfl .i64 n 1048576 rfl rfl _ e8.out) ?_)) | ((with_reducible refine wl_run rfl (ex_leq _ 3 3 (.tmp 51) (.const (.int .i64 200)) rfl .i64 (p.length : Int) 200 rfl rfl _ e9.out) ?_)) | (go_at_call 43; refine (ht_at d _).mono ?_; rw [eht.out]; rintro e w' ⟨rfl, rfl⟩; dsimp only) | (go_at_call 40; refine (hn_at d _).mono ?_; rw [ehn.out]; rintro e w' ⟨rfl, rfl⟩; dsimp only))
          go_ret
          exact ⟨by simp, K2.out⟩
         ·cases x10
          ·go_wp2_with (first | (with_reducible refine wl_run rfl (ex_slen _ 9 _ rfl rfl k rfl) ?_) | ((with_reducible refine wl_run rfl (ex_gtr _ 3 3 (.tmp 17) (.const (.int .i64 2000)) rfl .i64 (k.length : Int) 2000 rfl rfl _ e3.out) ?_)) | ((with_reducible refine wl_run rfl (ex_gtr _ 3 3 (.tmp 21) (.const (.int .i64 2000)) rfl .i64 (t.length : Int) 2000 rfl rfl _ e4.out) ?_)) | ((with_reducible refine wl_runG ?hw (ex_gtr _ 3 3 (.tmp 31) (.const (.int .i64 0)) rfl .i64 (t.length : Int) 0 rfl rfl _ e5.out) ?_); (case hw => rfl)) | ((with_reducible refine wl_runG ?hw (ex_neq _ 3 3 (.tmp 40) (.const (.int .i64 0)) rfl .i64 n 0 rfl rfl _ e6.out) ?_); (case hw => rfl)) | ((with_reducible refine wl_run rfl (ex_lss _ 3 3 (.tmp 44) (.const (.int .i64 0)) rfl .i64 n 0 rfl rfl _ e7.out) ?_)) | ((with_reducible refine wl_run rfl (ex_gtr _ 3 3 (.tmp 47) (.const (.int .i64 1048576)) rfl .i64 n 1048576 rfl rfl _ e8.out) ?_)) | ((with_reducible refine wl_run rfl (ex_leq _ 3 3 (.tmp 51) (.const (.int .i64 200)) rfl .i64 (p.length : Int) 200 rfl rfl _ e9.out) ?_)) | ((with_reducible refine wl_runG ?hw (ex_eql _ 3 3 (.tmp 55) (.const (.int .i64 12)) rfl .i64 d 12 rfl rfl _ e10.out) ?_); (case hw => rfl)) | ((with_reducible refine wl_runG ?hw (ex_eql _ 3 3 (.tmp 60) (.const (.int .i64 0)) rfl .i64 (p.length : Int) 0 rfl rfl _ e11.out) ?_); (case hw => rfl)) | (go_at_call 43; refine (ht_at d _).mono ?_; rw [eht.out]; rintro e w' ⟨rfl, rfl⟩; dsimp only) | (go_at_call 40; refine (hn_at d _).mono ?_; rw [ehn.out]; rintro e w' ⟨rfl, rfl⟩; dsimp only))
           go_ret
           exact ⟨by simp, K2.out⟩
          ·go_wp2_with (first | (with_reducible refine wl_run rfl (ex_slen _ 9 _ rfl rfl k rfl) ?_) | ((with_reducible refine wl_run rfl (ex_gtr _ 3 3 (.tmp 17) (.const (.int .i64 2000)) rfl .i64 (k.length : Int) 2000 rfl rfl _ e3.out) ?_)) | ((with_reducible refine wl_run rfl (ex_gtr _ 3 3 (.tmp 21) (.const (.int .i64 2000)) rfl .i64 (t.length : Int) 2000 rfl rfl _ e4.out) ?_)) | ((with_reducible refine wl_runG ?hw (ex_gtr _ 3 3 (.tmp 31) (.const (.int .i64 0)) rfl .i64 (t.length : Int) 0 rfl rfl _ e5.out) ?_); (case hw => rfl)) | ((with_reducible refine wl_runG ?hw (ex_neq _ 3 3 (.tmp 40) (.const (.int .i64 0)) rfl .i64 n 0 rfl rfl _ e6.out) ?_); (case hw => rfl)) | ((with_reducible refine wl_run rfl (ex_lss _ 3 3 (.tmp 44) (.const (.int .i64 0)) rfl .i64 n 0 rfl rfl _ e7.out) ?_)) | ((with_reducible refine wl_run rfl (ex_gtr _ 3 3 (.tmp 47) (.const (.int .i64 1048576)) rfl .i64 n 1048576 rfl rfl _ e8.out) ?_)) | ((with_reducible refine wl_run rfl (ex_leq _ 3 3 (.tmp 51) (.const (.int .i64 200)) rfl .i64 (p.length : Int) 200 rfl rfl _ e9.out) ?_)) | ((with_reducible refine wl_runG ?hw (ex_eql _ 3 3 (.tmp 55) (.const (.int .i64 12)) rfl .i64 d 12 rfl rfl _ e10.out) ?_); (case hw => rfl)) | (go_at_call 43; refine (ht_at d _).mono ?_; rw [eht.out]; rintro e w' ⟨rfl, rfl⟩; dsimp only) | (go_at_call 40; refine (hn_at d _).mono ?_; rw [ehn.out]; rintro e w' ⟨rfl, rfl⟩; dsimp only))
           go_ret
           exact ⟨by simp, K2.out⟩
        ·go_wp2_with (first | (with_reducible refine wl_run rfl (ex_slen _ 9 _ rfl rfl k rfl) ?_) | ((with_reducible refine wl_run rfl (ex_gtr _ 3 3 (.tmp 17) (.const (.int .i64 2000)) rfl .i64 (k.length : Int) 2000 rfl rfl _ e3.out) ?_)) | ((with_reducible refine wl_run rfl (ex_gtr _ 3 3 (.tmp 21) (.const (.int .i64 2000)) rfl .i64 (t.length : Int) 2000 rfl rfl _ e4.out) ?_)) | ((with_reducible refine wl_runG ?hw (ex_gtr _ 3 3 (.tmp 31) (.const (.int .i64 0)) rfl .i64 (t.length : Int) 0 rfl rfl _ e5.out) ?_); (case hw => rfl)) | ((with_reducible refine wl_runG ?hw (ex_neq _ 3 3 (.tmp 40) (.const (.int .i64 0)) rfl .i64 n 0 rfl rfl _ e6.out) ?_); (case hw => rfl)) | (go_at_call 43; refine (ht_at d _).mono ?_; rw [eht.out]; rintro e w' ⟨rfl, rfl⟩; dsimp only) | (go_at_call 40; refine (hn_at d _).mono ?_; rw [ehn.out]; rintro e w' ⟨rfl, rfl⟩; dsimp only))
         go_ret
         exact ⟨by simp, K2.out⟩
       ·skip
        cases x7
        ·cases x8
         ·cases x9
          ·go_wp2_with (first | (with_reducible refine wl_run rfl (ex_slen _ 9 _ rfl rfl k rfl) ?_) | ((with_reducible refine wl_run rfl (ex_gtr _ 3 3 (.tmp 17) (.const (.int .i64 2000)) rfl .i64 (k.length : Int) 2000 rfl rfl _ e3.out) ?_)) | ((with_reducible refine wl_run rfl (ex_gtr _ 3 3 (.tmp 21) (.const (.int .i64 2000)) rfl .i64 (t.length : Int) 2000 rfl rfl _ e4.out) ?_)) | ((with_reducible refine wl_runG ?hw (ex_gtr _ 3 3 (.tmp 31) (.const (.int .i64 0)) rfl .i64 (t.length : Int) 0 rfl rfl _ e5.out) ?_); (case hw => rfl)) | ((with_reducible refine wl_run rfl (ex_lss _ 3 3 (.tmp 44) (.const (.int .i64 0)) rfl .i64 n 0 rfl rfl _ e7.out) ?_)) | ((with_reducible refine wl_run rfl (ex_gtr _ 3 3 (.tmp 47) (.const (.int .i64 1048576)) rfl .i64 n 1048576 rfl rfl _ e8.out) ?_)) | ((with_reducible refine wl_run rfl (ex_leq _ 3 3 (.tmp 51) (.const (.int .i64 200)) rfl .i64 (p.length : Int) 200 rfl rfl _ e9.out) ?_)) | (go_at_call 43; refine (ht_at d _).mono ?_; rw [eht.out]; rintro e w' ⟨rfl, rfl⟩; dsimp only) | (go_at_call 40; refine (hn_at d _).mono ?_; rw [ehn.out]; rintro e w' ⟨rfl, rfl⟩; dsimp only))
           go_ret
           exact ⟨by simp, K2.out⟩
          ·cases x10
           ·go_wp2_with (first | (with_reducible refine wl_run rfl (ex_slen _ 9 _ rfl rfl k rfl) ?_) | ((with_reducible refine wl_run rfl (ex_gtr _ 3 3 (.tmp 17) (.const (.int .i64 2000)) rfl .i64 (k.length : Int) 2000 rfl rfl _ e3.out) ?_)) | ((with_reducible refine wl_run rfl (ex_gtr _ 3 3 (.tmp 21) (.const (.int .i64 2000)) rfl .i64 (t.length : Int) 2000 rfl rfl _ e4.out) ?_)) | ((with_reducible refine wl_runG ?hw (ex_gtr _ 3 3 (.tmp 31) (.const (.int .i64 0)) rfl .i64 (t.length : Int) 0 rfl rfl _ e5.out) ?_); (case hw => rfl)) | ((with_reducible refine wl_run rfl (ex_lss _ 3 3 (.tmp 44) (.const (.int .i64 0)) rfl .i64 n 0 rfl rfl _ e7.out) ?_)) | ((with_reducible refine wl_run rfl (ex_gtr _ 3 3 (.tmp 47) (.const (.int .i64 1048576)) rfl .i64 n 1048576 rfl rfl _ e8.out) ?_)) | ((with_reducible refine wl_run rfl (ex_leq _ 3 3 (.tmp 51) (.const (.int .i64 200)) rfl .i64 (p.length : Int) 200 rfl rfl _ e9.out) ?_)) | ((with_reducible refine wl_runG ?hw (ex_eql _ 3 3 (.tmp 55) (.const (.int .i64 12)) rfl .i64 d 12 rfl rfl _ e10.out) ?_); (case hw => rfl)) | ((with_reducible refine wl_runG ?hw (ex_eql _ 3 3 (.tmp 60) (.const (.int .i64 0)) rfl .i64 (p.length : Int) 0 rfl rfl _ e11.out) ?_); (case hw => rfl)) | (go_at_call 43; refine (ht_at d _).mono ?_; rw [eht.out]; rintro e w' ⟨rfl, rfl⟩; dsimp only) | (go_at_call 40; refine (hn_at d _).mono ?_; rw [ehn.out]; rintro e w' ⟨rfl, rfl⟩; dsimp only))
            go_ret
            exact ⟨by simp, K2.out⟩
           ·go_wp2_with (first | (with_reducible refine wl_run rfl (ex_slen _ 9 _ rfl rfl k rfl) ?_) | ((with_reducible refine wl_run rfl (ex_gtr _ 3 3 (.tmp 17) (.const (.int .i64 2000)) rfl .i64 (k.length : Int) 2000 rfl rfl _ e3.out) ?_)) | ((with_reducible refine wl_run rfl (ex_gtr _ 3 3 (.tmp 21) (.const (.int .i64 2000)) rfl .i64 (t.length : Int) 2000 rfl rfl _ e4.out) ?_)) | ((with_reducible refine wl_runG ?hw (ex_gtr _ 3 3 (.tmp 31) (.const (.int .i64 0)) rfl .i64 (t.length : Int) 0 rfl rfl _ e5.out) ?_); (case hw => rfl)) | ((with_reducible refine wl_run rfl (ex_lss _ 3 3 (.tmp 44) (.const (.int .i64 0)) rfl .i64 n 0 rfl rfl _ e7.out) ?_)) | ((with_reducible refine wl_run rfl (ex_gtr _ 3 3 (.tmp 47) (.const (.int .i64 1048576)) rfl .i64 n 1048576 rfl rfl _ e8.out) ?_)) | ((with_reducible refine wl_run rfl (ex_leq _ 3 3 (.tmp 51) (.const (.int .i64 200)) rfl .i64 (p.length : Int) 200 rfl rfl _ e9.out) ?_)) | ((with_reducible refine wl_runG ?hw (ex_eql _ 3 3 (.tmp 55) (.const (.int .i64 12)) rfl .i64 d 12 rfl rfl _ e10.out) ?_); (case hw => rfl)) | (go_at_call 43; refine (ht_at d _).mono ?_; rw [eht.out]; rintro e w' ⟨rfl, rfl⟩; dsimp only) | (go_at_call 40; refine (hn_at d _).mono ?_; rw [ehn.out]; rintro e w' ⟨rfl, rfl⟩; dsimp only))
            go_ret
            exact ⟨by simp, K2.out⟩
         ·go_wp2_with (first | (with_reducible refine wl_run rfl (ex_slen _ 9 _ rfl rfl k rfl) ?_) | ((with_reducible refine wl_run rfl (ex_gtr _ 3 3 (.tmp 17) (.const (.int .i64 2000)) rfl .i64 (k.length : Int) 2000 rfl rfl _ e3.out) ?_)) | ((with_reducible refine wl_run rfl (ex_gtr _ 3 3 (.tmp 21) (.const (.int .i64 2000)) rfl .i64 (t.length : Int) 2000 rfl rfl _ e4.out) ?_)) | ((with_reducible refine wl_runG ?hw (ex_gtr _ 3 3 (.tmp 31) (.const (.int .i64 0)) rfl .i64 (t.length : Int) 0 rfl rfl _ e5.out) ?_); (case hw => rfl)) | ((with_reducible refine wl_run rfl (ex_lss _ 3 3 (.tmp 44) (.const (.int .i64 0)) rfl .i64 n 0 rfl rfl _ e7.out) ?_)) | ((with_reducible refine wl_run rfl (ex_gtr _ 3 3 (.tmp 47) (.const (.int .i64 1048576)) rfl .i64 n 1048576 rfl rfl _ e8.out) ?_)) | (go_at_call 43; refine (ht_at d _).mono ?_; rw [eht.out]; rintro e w' ⟨rfl, rfl⟩; dsimp only) | (go_at_call 40; refine (hn_at d _).mono ?_; rw [ehn.out]; rintro e w' ⟨rfl, rfl⟩; dsimp only))
          go_ret
          exact ⟨by simp, K2.out⟩
        ·go_wp2_with (first | (with_reducible refine wl_run rfl (ex_slen _ 9 _ rfl rfl k rfl) ?_) | ((with_reducible refine wl_run rfl (ex_gtr _ 3 3 (.tmp 17) (.const (.int .i64 2000)) rfl .i64 (k.length : Int) 2000 rfl rfl _ e3.out) ?_)) | ((with_reducible refine wl_run rfl (ex_gtr _ 3 3 (.tmp 21) (.const (.int .i64 2000)) rfl .i64 (t.length : Int) 2000 rfl rfl _ e4.out) ?_)) | ((with_reducible refine wl_runG ?hw (ex_gtr _ 3 3 (.tmp 31) (.const (.int .i64 0)) rfl .i64 (t.length : Int) 0 rfl rfl _ e5.out) ?_); (case hw => rfl)) | ((with_reducible refine wl_run rfl (ex_lss _ 3 3 (.tmp 44) (.const (.int .i64 0)) rfl .i64 n 0 rfl rfl _ e7.out) ?_)) | (go_at_call 43; refine (ht_at d _).mono ?_; rw [eht.out]; rintro e w' ⟨rfl, rfl⟩; dsimp only) | (go_at_call 40; refine (hn_at d _).mono ?_; rw [ehn.out]; rintro e w' ⟨rfl, rfl⟩; dsimp only))
         go_ret
         exact ⟨by simp, K2.out⟩
      ·go_wp2_with (first | (with_reducible refine wl_run rfl (ex_slen _ 9 _ rfl rfl k rfl) ?_) | ((with_reducible refine wl_run rfl (ex_gtr _ 3 3 (.tmp 17) (.const (.int .i64 2000)) rfl .i64 (k.length : Int) 2000 rfl rfl _ e3.out) ?_)) | ((with_reducible refine wl_run rfl (ex_gtr _ 3 3 (.tmp 21) (.const (.int .i64 2000)) rfl .i64 (t.length : Int) 2000 rfl rfl _ e4.out) ?_)) | ((with_reducible refine wl_runG ?hw (ex_gtr _ 3 3 (.tmp 31) (.const (.int .i64 0)) rfl .i64 (t.length : Int) 0 rfl rfl _ e5.out) ?_); (case hw => rfl)) | (go_at_call 43; refine (ht_at d _).mono ?_; rw [eht.out]; rintro e w' ⟨rfl, rfl⟩; dsimp only))
       go_ret
       exact ⟨by simp, K2.out⟩
     ·skip
      cases hnd
      ·cases x6
       ·skip
        obtain ⟨rfl, rfl⟩ := n1 rfl
        cases x9
        ·go_wp2_with (first | (with_reducible refine wl_run rfl (ex_slen _ 9 _ rfl rfl k rfl) ?_) | ((with_reducible refine wl_run rfl (ex_gtr _ 3 3 (.tmp 17) (.const (.int .i64 2000)) rfl .i64 (k.length : Int) 2000 rfl rfl _ e3.out) ?_)) | ((with_reducible refine wl_run rfl (ex_gtr _ 3 3 (.tmp 21) (.const (.int .i64 2000)) rfl .i64 (t.length : Int) 2000 rfl rfl _ e4.out) ?_)) | ((with_reducible refine wl_runG ?hw (ex_neq _ 3 3 (.tmp 40) (.const (.int .i64 0)) rfl .i64 n 0 rfl rfl _ e6.out) ?_); (case hw => rfl)) | ((with_reducible refine wl_run rfl (ex_lss _ 3 3 (.tmp 44) (.const (.int .i64 0)) rfl .i64 n 0 rfl rfl _ e7.out) ?_)) | ((with_reducible refine wl_run rfl (ex_gtr _ 3 3 (.tmp 47) (.const (.int .i64 1048576)) rfl .i64 n 1048576 rfl rfl _ e8.out) ?_)) | ((with_reducible refine wl_run rfl (ex_leq _ 3 3 (.tmp 51) (.const (.int .i64 200)) rfl .i64 (p.length : Int) 200 rfl rfl _ e9.out) ?_)) | (go_at_call 43; refine (ht_at d _).mono ?_; rw [eht.out]; rintro e w' ⟨rfl, rfl⟩; dsimp only) | (go_at_call 40; refine (hn_at d _).mono ?_; rw [ehn.out]; rintro e w' ⟨rfl, rfl⟩; dsimp only))
         go_ret
         exact ⟨by simp, K2.out⟩
        ·cases x10
         ·go_wp2_with (first | (with_reducible refine wl_run rfl (ex_slen _ 9 _ rfl rfl k rfl) ?_) | ((with_reducible refine wl_run rfl (ex_gtr _ 3 3 (.tmp 17) (.const (.int .i64 2000)) rfl .i64 (k.length : Int) 2000 rfl rfl _ e3.out) ?_)) | ((with_reducible refine wl_run rfl (ex_gtr _ 3 3 (.tmp 21) (.const (.int .i64 2000)) rfl .i64 (t.length : Int) 2000 rfl rfl _ e4.out) ?_)) | ((with_reducible refine wl_runG ?hw (ex_neq _ 3 3 (.tmp 40) (.const (.int .i64 0)) rfl .i64 n 0 rfl rfl _ e6.out) ?_); (case hw => rfl)) | ((with_reducible refine wl_run rfl (ex_lss _ 3 3 (.tmp 44) (.const (.int .i64 0)) rfl .i64 n 0 rfl rfl _ e7.out) ?_)) | ((with_reducible refine wl_run rfl (ex_gtr _ 3 3 (.tmp 47) (.const (.int .i64 1048576)) rfl .i64 n 1048576 rfl rfl _ e8.out) ?_)) | ((with_reducible refine wl_run rfl (ex_leq _ 3 3 (.tmp 51) (.const (.int .i64 200)) rfl .i64 (p.length : Int) 200 rfl rfl _ e9.out) ?_)) | ((with_reducible refine wl_runG ?hw (ex_eql _ 3 3 (.tmp 55) (.const (.int .i64 12)) rfl .i64 d 12 rfl rfl _ e10.out) ?_); (case hw => rfl)) | ((with_reducible refine wl_runG ?hw (ex_eql _ 3 3 (.tmp 60) (.const (.int .i64 0)) rfl .i64 (p.length : Int) 0 rfl rfl _ e11.out) ?_); (case hw => rfl)) | (go_at_call 43; refine (ht_at d _).mono ?_; rw [eht.out]; rintro e w' ⟨rfl, rfl⟩; dsimp only) | (go_at_call 40; refine (hn_at d _).mono ?_; rw [ehn.out]; rintro e w' ⟨rfl, rfl⟩; dsimp only))
          go_ret
          exact ⟨by simp, K2.out⟩
         ·go_wp2_with (first | (with_reducible refine wl_run rfl (ex_slen _ 9 _ rfl rfl k rfl) ?_) | ((with_reducible refine wl_run rfl (ex_gtr _ 3 3 (.tmp 17) (.const (.int .i64 2000)) rfl .i64 (k.length : Int) 2000 rfl rfl _ e3.out) ?_)) | ((with_reducible refine wl_run rfl (ex_gtr _ 3 3 (.tmp 21) (.const (.int .i64 2000)) rfl .i64 (t.length : Int) 2000 rfl rfl _ e4.out) ?_)) | ((with_reducible refine wl_runG ?hw (ex_neq _ 3 3 (.tmp 40) (.const (.int .i64 0)) rfl .i64 n 0 rfl rfl _ e6.out) ?_); (case hw => rfl)) | ((with_reducible refine wl_run rfl (ex_lss _ 3 3 (.tmp 44) (.const (.int .i64 0)) rfl .i64 n 0 rfl rfl _ e7.out) ?_)) | ((with_reducible refine wl_run rfl (ex_gtr _ 3 3 (.tmp 47) (.const (.int .i64 1048576)) rfl .i64 n 1048576 rfl rfl _ e8.out) ?_)) | ((with_reducible refine wl_run rfl (ex_leq _ 3 3 (.tmp 51) (.const (.int .i64 200)) rfl .i64 (p.length : Int) 200 rfl rfl _ e9.out) ?_)) | ((with_reducible refine wl_runG ?hw (ex_eql _ 3 3 (.tmp 55) (.const (.int .i64 12)) rfl .i64 d 12 rfl rfl _ e10.out) ?_); (case hw => rfl)) | (go_at_call 43; refine (ht_at d _).mono ?_; rw [eht.out]; rintro e w' ⟨rfl, rfl⟩; dsimp only) | (go_at_call 40; refine (hn_at d _).mono ?_; rw [ehn.out]; rintro e w' ⟨rfl, rfl⟩; dsimp only))
          go_ret
          exact ⟨by simp, K2.out⟩
       ·go_wp2_with (first | (with_reducible refine wl_run rfl (ex_slen _ 9 _ rfl rfl k rfl) ?_) | ((with_reducible refine wl_run rfl (ex_gtr _ 3 3 (.tmp 17) (.const (.int .i64 2000)) rfl .i64 (k.length : Int) 2000 rfl rfl _ e3.out) ?_)) | ((with_reducible refine wl_run rfl (ex_gtr _ 3 3 (.tmp 21) (.const (.int .i64 2000)) rfl .i64 (t.length : Int) 2000 rfl rfl _ e4.out) ?_)) | ((with_reducible refine wl_runG ?hw (ex_neq _ 3 3 (.tmp 40) (.const (.int .i64 0)) rfl .i64 n 0 rfl rfl _ e6.out) ?_); (case hw => rfl)) | (go_at_call 43; refine (ht_at d _).mono ?_; rw [eht.out]; rintro e w' ⟨rfl, rfl⟩; dsimp only) | (go_at_call 40; refine (hn_at d _).mono ?_; rw [ehn.out]; rintro e w' ⟨rfl, rfl⟩; dsimp only))
        go_ret
        exact ⟨by simp, K2.out⟩
      ·skip
       cases x7
       ·cases x8
        ·cases x9
         ·go_wp2_with (first | (with_reducible refine wl_run rfl (ex_slen _ 9 _ rfl rfl k rfl) ?_) | ((with_reducible refine wl_run rfl (ex_gtr _ 3 3 (.tmp 17) (.const (.int .i64 2000)) rfl .i64 (k.length : Int) 2000 rfl rfl _ e3.out) ?_)) | ((with_reducible refine wl_run rfl (ex_gtr _ 3 3 (.tmp 21) (.const (.int .i64 2000)) rfl .i64 (t.length : Int) 2000 rfl rfl _ e4.out) ?_)) | ((with_reducible refine wl_run rfl (ex_lss _ 3 3 (.tmp 44) (.const (.int .i64 0)) rfl .i64 n 0 rfl rfl _ e7.out) ?_)) | ((with_reducible refine wl_run rfl (ex_gtr _ 3 3 (.tmp 47) (.const (.int .i64 1048576)) rfl .i64 n 1048576 rfl rfl _ e8.out) ?_)) | ((with_reducible refine wl_run rfl (ex_leq _ 3 3 (.tmp 51) (.const (.int .i64 200)) rfl .i64 (p.length : Int) 200 rfl rfl _ e9.out) ?_)) | (go_at_call 43; refine (ht_at d _).mono ?_; rw [eht.out]; rintro e w' ⟨rfl, rfl⟩; dsimp only) | (go_at_call 40; refine (hn_at d _).mono ?_; rw [ehn.out]; rintro e w' ⟨rfl, rfl⟩; dsimp only))
          go_ret
          exact ⟨by simp, K2.out⟩
         ·cases x10
          ·go_wp2_with (first | (with_reducible refine wl_run rfl (ex_slen _ 9 _ rfl rfl k rfl) ?_) | ((with_reducible refine wl_run rfl (ex_gtr _ 3 3 (.tmp 17) (.const (.int .i64 2000)) rfl .i64 (k.length : Int) 2000 rfl rfl _ e3.out) ?_)) | ((with_reducible refine wl_run rfl (ex_gtr _ 3 3 (.tmp 21) (.const (.int .i64 2000)) rfl .i64 (t.length : Int) 2000 rfl rfl _ e4.out) ?_)) | ((with_reducible refine wl_run rfl (ex_lss _ 3 3 (.tmp 44) (.const (.int .i64 0)) rfl .i64 n 0 rfl rfl _ e7.out) ?_)) | ((with_reducible refine wl_run rfl (ex_gtr _ 3 3 (.tmp 47) (.const (.int .i64 1048576)) rfl .i64 n 1048576 rfl rfl _ e8.out) ?_)) | ((with_reducible refine wl_run rfl (ex_leq _ 3 3 (.tmp 51) (.const (.int .i64 200)) rfl .i64 (p.length : Int) 200 rfl rfl _ e9.out) ?_)) | ((with_reducible refine wl_runG ?hw (ex_eql _ 3 3 (.tmp 55) (.const (.int .i64 12)) rfl .i64 d 12 rfl rfl _ e10.out) ?_); (case hw => rfl)) | ((with_reducible refine wl_runG ?hw (ex_eql _ 3 3 (.tmp 60) (.const (.int .i64 0)) rfl .i64 (p.length : Int) 0 rfl rfl _ e11.out) ?_); (case hw => rfl)) | (go_at_call 43; refine (ht_at d _).mono ?_; rw [eht.out]; rintro e w' ⟨rfl, rfl⟩; dsimp only) | (go_at_call 40; refine (hn_at d _).mono ?_; rw [ehn.out]; rintro e w' ⟨rfl, rfl⟩; dsimp only))
           go_ret
           exact ⟨by simp, K2.out⟩
          ·go_wp2_with (first | (with_reducible refine wl_run rfl (ex_slen _ 9 _ rfl rfl k rfl) ?_) | ((with_reducible refine wl_run rfl (ex_gtr _ 3 3 (.tmp 17) (.const (.int .i64 2000)) rfl .i64 (k.length : Int) 2000 rfl rfl _ e3.out) ?_)) | ((with_reducible refine wl_run rfl (ex_gtr _ 3 3 (.tmp 21) (.const (.int .i64 2000)) rfl .i64 (t.length : Int) 2000 rfl rfl _ e4.out) ?_)) | ((with_reducible refine wl_run rfl (ex_lss _ 3 3 (.tmp 44) (.const (.int .i64 0)) rfl .i64 n 0 rfl rfl _ e7.out) ?_)) | ((with_reducible refine wl_run rfl (ex_gtr _ 3 3 (.tmp 47) (.const (.int .i64 1048576)) rfl .i64 n 1048576 rfl rfl _ e8.out) ?_)) | ((with_reducible refine wl_run rfl (ex_leq _ 3 3 (.tmp 51) (.const (.int .i64 200)) rfl .i64 (p.length : Int) 200 rfl rfl _ e9.out) ?_)) | ((with_reducible refine wl_runG ?hw (ex_eql _ 3 3 (.tmp 55) (.const (.int .i64 12)) rfl .i64 d 12 rfl rfl _ e10.out) ?_); (case hw => rfl)) | (go_at_call 43; refine (ht_at d _).mono ?_; rw [eht.out]; rintro e w' ⟨rfl, rfl⟩; dsimp only) | (go_at_call 40; refine (hn_at d _).mono ?_; rw [ehn.out]; rintro e w' ⟨rfl, rfl⟩; dsimp only))
           go_ret
           exact ⟨by simp, K2.out⟩
        ·go_wp2_with (first | (with_reducible refine wl_run rfl (ex_slen _ 9 _ rfl rfl k rfl) ?_) | ((with_reducible refine wl_run rfl (ex_gtr _ 3 3 (.tmp 17) (.const (.int .i64 2000)) rfl .i64 (k.length : Int) 2000 rfl rfl _ e3.out) ?_)) | ((with_reducible refine wl_run rfl (ex_gtr _ 3 3 (.tmp 21) (.const (.int .i64 2000)) rfl .i64 (t.length : Int) 2000 rfl rfl _ e4.out) ?_)) | ((with_reducible refine wl_run rfl (ex_lss _ 3 3 (.tmp 44) (.const (.int .i64 0)) rfl .i64 n 0 rfl rfl _ e7.out) ?_)) | ((with_reducible refine wl_run rfl (ex_gtr _ 3 3 (.tmp 47) (.const (.int .i64 1048576)) rfl .i64 n 1048576 rfl rfl _ e8.out) ?_)) | (go_at_call 43; refine (ht_at d _).mono ?_; rw [eht.out]; rintro e w' ⟨rfl, rfl⟩; dsimp only) | (go_at_call 40; refine (hn_at d _).mono ?_; rw [ehn.out]; rintro e w' ⟨rfl, rfl⟩; dsimp only))
         go_ret
         exact ⟨by simp, K2.out⟩
       ·go_wp2_with (first | (with_reducible refine wl_run rfl (ex_slen _ 9 _ rfl rfl k rfl) ?_) | ((with_reducible refine wl_run rfl (ex_gtr _ 3 3 (.tmp 17) (.const (.int .i64 2000)) rfl .i64 (k.length : Int) 2000 rfl rfl _ e3.out) ?_)) | ((with_reducible refine wl_run rfl (ex_gtr _ 3 3 (.tmp 21) (.const (.int .i64 2000)) rfl .i64 (t.length : Int) 2000 rfl rfl _ e4.out) ?_)) | ((with_reducible refine wl_run rfl (ex_lss _ 3 3 (.tmp 44) (.const (.int .i64 0)) rfl .i64 n 0 rfl rfl _ e7.out) ?_)) | (go_at_call 43; refine (ht_at d _).mono ?_; rw [eht.out]; rintro e w' ⟨rfl, rfl⟩; dsimp only) | (go_at_call 40; refine (hn_at d _).mono ?_; rw [ehn.out]; rintro e w' ⟨rfl, rfl⟩; dsimp only))
        go_ret
        exact ⟨by simp, K2.out⟩
    ·go_wp2_with (first | (with_reducible refine wl_run rfl (ex_slen _ 9 _ rfl rfl k rfl) ?_) | ((with_reducible refine wl_run rfl (ex_gtr _ 3 3 (.tmp 17) (.const (.int .i64 2000)) rfl .i64 (k.length : Int) 2000 rfl rfl _ e3.out) ?_)) | ((with_reducible refine wl_run rfl (ex_gtr _ 3 3 (.tmp 21) (.const (.int .i64 2000)) rfl .i64 (t.length : Int) 2000 rfl rfl _ e4.out) ?_)))
     go_ret
     exact ⟨by simp, K2.out⟩
   ·go_wp2_with (first | (with_reducible refine wl_run rfl (ex_slen _ 9 _ rfl rfl k rfl) ?_) | ((with_reducible refine wl_run rfl (ex_gtr _ 3 3 (.tmp 17) (.const (.int .i64 2000)) rfl .i64 (k.length : Int) 2000 rfl rfl _ e3.out) ?_)))
    go_ret
    exact ⟨by simp, K2.out⟩
  ·go_wp2_with fail
   go_ret
   exact ⟨by simp, K2.out⟩
 ·go_wp2_with (first | (go_at_call 39; refine (hna.out _).mono ?_; rintro e w1 ⟨rfl, hk1⟩; have F1 := Hd.mk (F0.out.keep hk1); have K1 : Hd (KZ w w1) := ⟨((Kp.refl _ w).alloc _).th hk1⟩; clear hk1; dsimp only) | ((with_reducible refine wl_run rfl (ex_seql _ 9 9 (.tmp 6) (.const (.string ⟨#[]⟩)) rfl (nm d) [] true e1.out rfl rfl) ?_)))
  go_ret
  exact ⟨rfl, K1.out⟩
theorem lx_name {w1 wr : World} {B : Nat} {l L : List UInt8} {c : Nat} (h : Hd (Lx w1 B wr l c)) (e : l = L) (hc : c ≤ 100000) : ∃ c, c ≤ 100000 ∧ Hd (Lx w1 B wr L c) := ⟨c, hc, ⟨e ▸ h.out⟩⟩
set_option maxHeartbeats 4000000 in
theorem line_at (a : A) {w : World} (hE : Ev w) (At : Option Addr) (ct : Nat) (Ap : Option Addr) (cp : Nat) (hT : Bs w (.slice At a.t.length ct) (ints a.t)) (hP : Bs w (.slice Ap a.p.length cp) (ints a.p)) :
  Calls Tryz.prog 9 #[.agg #[.int .i64 a.d, .string ⟨a.k.toArray⟩, .slice At a.t.length ct, .int .i64 a.n, .slice Ap a.p.length cp]] w fun e w' => e = .returned (lineV a) ∧ KZ w w' := by
 have hm := Hd.mk (may_at a)
 by_cases hy : may a
 ·rw [lineV_yes hy]
  have hy1 : Hd (decide (may a) = true) := ⟨decide_eq_true hy⟩
  obtain ⟨d, k, t, n, p⟩ := a
  simp only at hT hP hm ⊢
  have z1 : 1 ≤ d := hy.1
  have z2 : k.length ≤ 2000 := hy.2.2.1
  have z3 : t.length ≤ 2000 := hy.2.2.2.1
  have z4 : p.length ≤ 200 := hy.2.2.2.2.1
  have z5 : 0 ≤ n := hy.2.2.2.2.2.1
  have z6 : n ≤ 1048576 := hy.2.2.2.2.2.2.1
  have hy := Hd.mk hy
  have q2 := quote_length k false
  have q3 := quote_length t true
  have q1 := Lib.itoa_length_le n (by omega) (by omega)
  have l1 : Hd (([32] : List UInt8).length + (Lib.itoa n).length ≤ 9000000000000000000) := ⟨by simp only [List.length_cons, List.length_nil]; omega⟩
  have l2 : Hd (([32] : List UInt8).length + (quote k false).length ≤ 9000000000000000000) := ⟨by simp only [List.length_cons, List.length_nil]; omega⟩
  have l3 : Hd (([32] : List UInt8).length + (quote t true).length ≤ 9000000000000000000) := ⟨by simp only [List.length_cons, List.length_nil]; omega⟩
  have g0 : Hd ((nm d).length ≤ 10000) := ⟨by have := nm_len d; omega⟩
  have g1 : Hd ((32 :: Lib.itoa n).length ≤ 10000) := ⟨by simp only [List.length_cons]; omega⟩
  have g2 : Hd ((32 :: quote k false).length ≤ 10000) := ⟨by simp only [List.length_cons]; omega⟩
  have g3 : Hd ((32 :: quote t true).length ≤ 10000) := ⟨by simp only [List.length_cons]; omega⟩
  have hn0 : Hd (-9223372036854775808 ≤ n ∧ n ≤ 9223372036854775807) := ⟨by omega⟩
  have hk9 : Hd (k.length < 100000000) := ⟨by omega⟩
  have ht9 : Hd (t.length < 100000000) := ⟨by omega⟩
  have z4i : (p.length : Int) ≤ 200 := by omega
  clear q1 q2 q3 z1 z2 z3 z4 z5 z6
  have F0 := Hd.mk (Fa.new w (.int .i64 d) (.string ⟨k.toArray⟩) (.slice At t.length ct) (.int .i64 n) (.slice Ap p.length cp))
  have hE := Hd.mk hE
  have hT := Hd.mk hT
  have hP := Hd.mk hP
  obtain ⟨hnd, ehn⟩ : ∃ b, Hd (hn d = b) := ⟨_, ⟨rfl⟩⟩
  obtain ⟨hkd, ehk⟩ : ∃ b, Hd (hk d = b) := ⟨_, ⟨rfl⟩⟩
  obtain ⟨htd, eht⟩ : ∃ b, Hd (ht d = b) := ⟨_, ⟨rfl⟩⟩
  obtain ⟨L, hL⟩ : ∃ L, Hd (L = nm d ++ ((if hn d then 32 :: Lib.itoa n else []) ++ ((if hk d then 32 :: quote k false else []) ++ (if ht d then 32 :: quote t true else [])))) := ⟨_, ⟨rfl⟩⟩
  rw [show line ⟨d, k, t, n, p⟩ = L ++ pk p by rw [hL.out]; simp only [line, fields, List.append_assoc]]
  cases hnd <;> cases hkd <;> cases htd
  all_goals go_enter Tryz.func9, Tryz.ntmps9
  all_goals go_wp2_with (first | (go_at_call 38; refine (hm.out _ At ct Ap cp).mono ?_; rw [hy1.out]; rintro e w1 ⟨rfl, hk1⟩; have F1 := Hd.mk (F0.out.keep hk1); have K1 : Hd (KZ w w1) := ⟨((Kp.refl _ w).alloc _).th hk1⟩; have E1 := Hd.mk (hE.out.keep K1.out); have T1 : Hd (Bs w1 (.slice At t.length ct) (ints t)) := ⟨Bs.keep hT.out (fun b hb _ => K1.out.block b hb id)⟩; have P1 : Hd (Bs w1 (.slice Ap p.length cp) (ints p)) := ⟨Bs.keep hP.out (fun b hb _ => K1.out.block b hb id)⟩; have hA : Hd (w.heap.size < w1.heap.size) := ⟨Nat.lt_of_lt_of_le (by show w.heap.size < (w.heap.push _).size; simp) hk1.size⟩; have hB := Hd.mk (Lx.fresh w1); clear hk1; dsimp only) | (go_at_call 39; refine (name_at d _).mono ?_; rintro e w2 ⟨rfl, hk1⟩; have hB2 := Hd.mk (hB.out.keep hk1); clear hB; have hB := hB2; clear hB2; clear hk1; dsimp only) | (go_at_call 40; refine (hn_at d _).mono ?_; rw [ehn.out]; rintro e w2 ⟨rfl, rfl⟩; dsimp only) | (go_at_call 42; refine (hk_at d _).mono ?_; rw [ehk.out]; rintro e w2 ⟨rfl, rfl⟩; dsimp only) | (go_at_call 43; refine (ht_at d _).mono ?_; rw [eht.out]; rintro e w2 ⟨rfl, rfl⟩; dsimp only) | (with_reducible refine wl_run rfl (ex_load _ 3 _ (.int .i64 d) rfl ⟨w.heap.size, 0, none⟩ U3 rfl rfl (hB.out.fa F1.out hA.out).c0) ?_) | (with_reducible refine wl_run rfl (ex_load _ 3 _ (.int .i64 n) rfl ⟨w.heap.size, 3, none⟩ U3 rfl rfl (hB.out.fa F1.out hA.out).c3) ?_) | (with_reducible refine wl_run rfl (ex_load _ 9 _ (.string ⟨k.toArray⟩) rfl ⟨w.heap.size, 1, none⟩ U9 rfl rfl (hB.out.fa F1.out hA.out).c1) ?_) | (with_reducible refine wl_run rfl (ex_load _ 22 _ (.slice At t.length ct) rfl ⟨w.heap.size, 2, none⟩ U22 rfl rfl (hB.out.fa F1.out hA.out).c2) ?_) | (with_reducible refine wl_run rfl (ex_load _ 22 _ (.slice Ap p.length cp) rfl ⟨w.heap.size, 4, none⟩ U22 rfl rfl (hB.out.fa F1.out hA.out).c4) ?_) | (go_at_call 41; refine (itoa_at n hn0.out.1 hn0.out.2 (hB.out.ev rfl E1.out)).mono ?_; rintro e w2 ⟨rfl, hk1⟩; have hB2 := Hd.mk (hB.out.keep hk1); clear hB; have hB := hB2; clear hB2; clear hk1; dsimp only) | (with_reducible refine wl_run rfl (ex_scat _ 9 9 (.const (.string ⟨#[32]⟩)) (.tmp 19) rfl [32] (Lib.itoa n) l1.out rfl rfl) ?_) | ((with_reducible refine wl_tobytes rfl 9 22 5 (.tmp 26) rfl U9 U22 U5 k rfl ?_); intro vk w2 hvk hk1 _ _; have hB2 := Hd.mk (hB.out.keep hk1); clear hB; have hB := hB2; clear hB2; clear hk1; have hvk := Hd.mk hvk) | (go_at_call 17; (with_reducible refine (quote_at hvk.out false hk9.out).mono ?_); rintro e w2 ⟨rfl, hk1⟩; have hB2 := Hd.mk (hB.out.keep hk1); clear hB; have hB := hB2; clear hB2; clear hk1; dsimp only) | (with_reducible refine wl_run rfl (ex_scat _ 9 9 (.const (.string ⟨#[32]⟩)) (.tmp 28) rfl [32] (quote k false) l2.out rfl rfl) ?_) | (go_at_call 17; (with_reducible refine (quote_at (hB.out.bs rfl T1.out) true ht9.out).mono ?_); rintro e w2 ⟨rfl, hk1⟩; have hB2 := Hd.mk (hB.out.keep hk1); clear hB; have hB := hB2; clear hB2; clear hk1; dsimp only) | (with_reducible refine wl_run rfl (ex_scat _ 9 9 (.const (.string ⟨#[32]⟩)) (.tmp 36) rfl [32] (quote t true) l3.out rfl rfl) ?_) | (go_at_call 35; (with_reducible refine (lx_str hB.out _ _ g0.out (by omega) (by omega)).mono ?_); rintro e w2 ⟨⟨x, rfl⟩, hB2⟩; clear hB; have hB := Hd.mk hB2; clear hB2; dsimp only) | (go_at_call 35; (with_reducible refine (lx_str hB.out _ _ g1.out (by omega) (by omega)).mono ?_); rintro e w2 ⟨⟨x, rfl⟩, hB2⟩; clear hB; have hB := Hd.mk hB2; clear hB2; dsimp only) | (go_at_call 35; (with_reducible refine (lx_str hB.out _ _ g2.out (by omega) (by omega)).mono ?_); rintro e w2 ⟨⟨x, rfl⟩, hB2⟩; clear hB; have hB := Hd.mk hB2; clear hB2; dsimp only) | (go_at_call 35; (with_reducible refine (lx_str hB.out _ _ g3.out (by omega) (by omega)).mono ?_); rintro e w2 ⟨⟨x, rfl⟩, hB2⟩; clear hB; have hB := Hd.mk hB2; clear hB2; dsimp only))
  all_goals (obtain ⟨c0, hc0, hB⟩ := lx_name hB (L := L) (by rw [hL.out, ehn.out, ehk.out, eht.out]; simp only [Bool.false_eq_true, if_false, if_true, List.nil_append, List.append_nil, List.append_assoc]) (by omega))
  all_goals clear g0 g1 g2 g3 l1 l2 l3 hL ehn ehk eht hm hy1 hy F0 hE hT hP hn0 hk9 ht9
  all_goals go_loopw [42] (fun v42 wr => ∃ j : Nat, v42 = .int .i64 j ∧ (j : Int) ≤ (p.length : Int) ∧ Hd (Lx w1 w1.heap.size wr (L ++ pk (p.take j)) (c0 + 100 * j))) (fun v42 _ => p.length - (intOf v42).toNat)
  all_goals first
   | exact ⟨0, rfl, by omega, ⟨by simpa [pk] using hB.out⟩⟩
   | (
    obtain ⟨j, rfl, hj, HH⟩ := hrel
    clear hB
    have hB := HH
    clear HH
    by_cases hlt : j < p.length
    ·obtain ⟨b, o, hAp, hc0', hb⟩ := bs_at P1.out hlt
     subst hAp
     have hc1 := bsee hB.out.below hc0' hb
     have hlt2 : (j : Int) < p.length := by omega
     have hpj := Hd.mk (pk_take (List.getElem?_eq_getElem hlt))
     generalize p[j] = c at *
     have hc256 := c.toNat_lt
     have q1 := Lib.itoa_length_le (c.toNat : Int) (by omega) (by omega)
     have g4 : Hd ((32 :: Lib.itoa (c.toNat : Int)).length ≤ 100) := ⟨by simp only [List.length_cons]; omega⟩
     have l4 : Hd (([32] : List UInt8).length + (Lib.itoa (c.toNat : Int)).length ≤ 9000000000000000000) := ⟨by simp only [List.length_cons, List.length_nil]; omega⟩
     have hn1 : Hd (-9223372036854775808 ≤ (c.toNat : Int) ∧ (c.toNat : Int) ≤ 9223372036854775807) := ⟨by omega⟩
     clear q1 hc256 hc0' hb hlt
     go_wp2_with (first | (with_reducible refine wl_run rfl (ex_toi64 _ 5 3 (.tmp 46) rfl (by kernel_rfl) U3 .u8 c.toNat (UInt8.toNat_lt c) rfl) ?_) | (go_at_call 41; refine (itoa_at (c.toNat : Int) hn1.out.1 hn1.out.2 (hB.out.ev rfl E1.out)).mono ?_; rintro e w2 ⟨rfl, hk1⟩; have hB2 := Hd.mk (hB.out.keep hk1); clear hB; have hB := hB2; clear hB2; clear hk1; dsimp only) | (with_reducible refine wl_run rfl (ex_scat _ 9 9 (.const (.string ⟨#[32]⟩)) (.tmp 48) rfl [32] (Lib.itoa (c.toNat : Int)) l4.out rfl rfl) ?_) | (go_at_call 35; (with_reducible refine (lx_str hB.out _ _ g4.out (by omega) (by omega)).mono ?_); rintro e w2 ⟨⟨x, rfl⟩, hB2⟩; clear hB; have hB := Hd.mk hB2; clear hB2; dsimp only))
     refine ⟨⟨j + 1, by go_num, by omega, ⟨?_⟩⟩, by simp [intOf]; omega⟩
     rw [hpj.out, ← List.append_assoc]
     exact hB.out.le (by omega)
    ·have hk2 : (j : Int) = p.length := by omega
     have hk3 : j = p.length := by omega
     have hB2 : Hd (Lx w1 w1.heap.size wr (L ++ pk p) (c0 + 100 * j)) := ⟨by
      have := hB.out
      rw [show p.take j = p by rw [hk3, List.take_length]] at this
      exact this⟩
     clear hk3 hlt hB
     have hB := hB2
     clear hB2
     go_wp2_with (go_at_call 36; refine (lx_end hB.out).mono ?_; rintro e w2 ⟨rfl, hB2⟩; clear hB; have hB := Hd.mk hB2; clear hB2; dsimp only)
     go_ret2
     exact ⟨rfl, K1.out.th (Kp.of_below hB.out.below _)⟩)
 ·have hy1 : Hd (decide (may a) = false) := ⟨decide_eq_false hy⟩
  rw [lineV_no hy]
  obtain ⟨d, k, t, n, p⟩ := a
  simp only at hm ⊢
  clear hy hT hP hE
  go_enter Tryz.func9, Tryz.ntmps9
  go_wp2_with (go_at_call 38; refine (hm.out _ At ct Ap cp).mono ?_; rw [hy1.out]; rintro e w1 ⟨rfl, hk1⟩; have K1 : Hd (KZ w w1) := ⟨((Kp.refl _ w).alloc _).th hk1⟩; clear hk1; dsimp only)
  go_ret2
  exact ⟨rfl, K1.out⟩
end Go.Proofs.YtkcechpaeilaeaaGreatDoor
