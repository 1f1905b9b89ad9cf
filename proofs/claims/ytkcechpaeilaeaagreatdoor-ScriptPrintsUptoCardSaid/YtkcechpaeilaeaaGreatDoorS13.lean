/- Two acts with the same in them are the same. -/
import Derived.Test.YtkcechpaeilaeaaGreatDoorE2
namespace Go.Proofs.YtkcechpaeilaeaaGreatDoor
open Go.RowKit
set_option linter.unusedVariables false
set_option linter.unusedSimpArgs false
set_option maxRecDepth 100000

set_option maxHeartbeats 2000000 in
theorem same_at (a : A) {w : World} {At Ap Bt Bp : Option Addr} {ct cp dt dp : Nat} (hT1 : Bs w (.slice At a.t.length ct) (ints a.t)) (hP1 : Bs w (.slice Ap a.p.length cp) (ints a.p)) (hT2 : Bs w (.slice Bt a.t.length dt) (ints a.t)) (hP2 : Bs w (.slice Bp a.p.length dp) (ints a.p)) :
    Calls Tryz.prog 13 #[.agg #[.int .i64 a.d, .string ⟨a.k.toArray⟩, .slice At a.t.length ct, .int .i64 a.n, .slice Ap a.p.length cp], .agg #[.int .i64 a.d, .string ⟨a.k.toArray⟩, .slice Bt a.t.length dt, .int .i64 a.n, .slice Bp a.p.length dp]] w fun e w' => e = .returned (.bool true) ∧ Kp (fun _ => False) w w' := by
  obtain ⟨d, k, t, n, p⟩ := a
  simp only at *
  have K1 : Kp (fun _ => False) w (w.alloc (.cells #[.int .i64 d, .string ⟨k.toArray⟩, .slice At t.length ct, .int .i64 n, .slice Ap p.length cp] 24)) := (Kp.refl _ w).alloc _
  obtain ⟨w2, hw2⟩ : ∃ w2, w2 = (w.alloc (.cells #[.int .i64 d, .string ⟨k.toArray⟩, .slice At t.length ct, .int .i64 n, .slice Ap p.length cp] 24)).alloc (.cells #[.int .i64 d, .string ⟨k.toArray⟩, .slice Bt t.length dt, .int .i64 n, .slice Bp p.length dp] 24) := ⟨_, rfl⟩
  have K2 : Kp (fun _ => False) w w2 := hw2 ▸ K1.andThen ((Kp.refl _ _).alloc _) (fun _ _ h => h)
  have FA : Hd (Fa w2 w.heap.size (.int .i64 d) (.string ⟨k.toArray⟩) (.slice At t.length ct) (.int .i64 n) (.slice Ap p.length cp)) := ⟨hw2 ▸ (Fa.new w _ _ _ _ _).keep ((Kp.refl _ _).alloc _)⟩
  have FB : Hd (Fa w2 (w.heap.size + 1) (.int .i64 d) (.string ⟨k.toArray⟩) (.slice Bt t.length dt) (.int .i64 n) (.slice Bp p.length dp)) := ⟨by
    have := Fa.new (w.alloc (.cells #[.int .i64 d, .string ⟨k.toArray⟩, .slice At t.length ct, .int .i64 n, .slice Ap p.length cp] 24)) (.int .i64 d) (.string ⟨k.toArray⟩) (.slice Bt t.length dt) (.int .i64 n) (.slice Bp p.length dp)
    rw [← hw2] at this
    have e : (w.alloc (.cells #[.int .i64 d, .string ⟨k.toArray⟩, .slice At t.length ct, .int .i64 n, .slice Ap p.length cp] 24)).heap.size = w.heap.size + 1 := by
      show (w.heap.push _).size = _
      simp
    rw [e] at this
    exact this⟩
  have hT1 : Hd (Bs w2 (.slice At t.length ct) (ints t)) := ⟨Bs.keep hT1 (fun b hb _ => K2.block b hb id)⟩
  have hT2 : Hd (Bs w2 (.slice Bt t.length dt) (ints t)) := ⟨Bs.keep hT2 (fun b hb _ => K2.block b hb id)⟩
  have hP1 : Hd (Bs w2 (.slice Ap p.length cp) (ints p)) := ⟨Bs.keep hP1 (fun b hb _ => K2.block b hb id)⟩
  have hP2 : Hd (Bs w2 (.slice Bp p.length dp) (ints p)) := ⟨Bs.keep hP2 (fun b hb _ => K2.block b hb id)⟩
  have K2 := Hd.mk K2
  have hd : Hd (decide (d = d) = true) := ⟨decide_eq_true rfl⟩
  have hn : Hd (decide (n = n) = true) := ⟨decide_eq_true rfl⟩
  have hk : Hd ((k == k) = true) := ⟨beq_self_eq_true k⟩
  have ht : Hd ((t == t) = true) := ⟨beq_self_eq_true t⟩
  have hp : Hd ((p == p) = true) := ⟨beq_self_eq_true p⟩
  have hw2 := Hd.mk hw2
  clear K1
  go_enter Tryz.func13, Tryz.ntmps13
  go_wp2_with (first | (rewrite [← hw2.out]) | ((with_reducible refine wl_run rfl (ex_load _ 3 _ (.int .i64 d) rfl ⟨w.heap.size, 0, none⟩ Tryz.underlying3 rfl rfl FA.out.c0) ?_); simp only [Act.put, List.setIfInBounds_toArray, List.set_cons_zero, List.set_cons_succ]) | ((with_reducible refine wl_run rfl (ex_load _ 3 _ (.int .i64 d) rfl ⟨(w.heap.size + 1), 0, none⟩ Tryz.underlying3 rfl rfl FB.out.c0) ?_); simp only [Act.put, List.setIfInBounds_toArray, List.set_cons_zero, List.set_cons_succ]) | ((with_reducible refine wl_runG ?hw (ex_load _ 9 _ (.string ⟨k.toArray⟩) rfl ⟨w.heap.size, 1, none⟩ Tryz.underlying9 rfl rfl FA.out.c1) ?_); (case hw => rfl); simp only [Act.put, List.setIfInBounds_toArray, List.set_cons_zero, List.set_cons_succ]) | ((with_reducible refine wl_runG ?hw (ex_load _ 9 _ (.string ⟨k.toArray⟩) rfl ⟨(w.heap.size + 1), 1, none⟩ Tryz.underlying9 rfl rfl FB.out.c1) ?_); (case hw => rfl); simp only [Act.put, List.setIfInBounds_toArray, List.set_cons_zero, List.set_cons_succ]) | ((with_reducible refine wl_runG ?hw (ex_load _ 22 _ (.slice At t.length ct) rfl ⟨w.heap.size, 2, none⟩ Tryz.underlying22 rfl rfl FA.out.c2) ?_); (case hw => rfl); simp only [Act.put, List.setIfInBounds_toArray, List.set_cons_zero, List.set_cons_succ]) | ((with_reducible refine wl_runG ?hw (ex_load _ 22 _ (.slice Bt t.length dt) rfl ⟨(w.heap.size + 1), 2, none⟩ Tryz.underlying22 rfl rfl FB.out.c2) ?_); (case hw => rfl); simp only [Act.put, List.setIfInBounds_toArray, List.set_cons_zero, List.set_cons_succ]) | ((with_reducible refine wl_runG ?hw (ex_load _ 3 _ (.int .i64 n) rfl ⟨w.heap.size, 3, none⟩ Tryz.underlying3 rfl rfl FA.out.c3) ?_); (case hw => rfl); simp only [Act.put, List.setIfInBounds_toArray, List.set_cons_zero, List.set_cons_succ]) | ((with_reducible refine wl_runG ?hw (ex_load _ 3 _ (.int .i64 n) rfl ⟨(w.heap.size + 1), 3, none⟩ Tryz.underlying3 rfl rfl FB.out.c3) ?_); (case hw => rfl); simp only [Act.put, List.setIfInBounds_toArray, List.set_cons_zero, List.set_cons_succ]) | ((with_reducible refine wl_runG ?hw (ex_load _ 22 _ (.slice Ap p.length cp) rfl ⟨w.heap.size, 4, none⟩ Tryz.underlying22 rfl rfl FA.out.c4) ?_); (case hw => rfl); simp only [Act.put, List.setIfInBounds_toArray, List.set_cons_zero, List.set_cons_succ]) | ((with_reducible refine wl_runG ?hw (ex_load _ 22 _ (.slice Bp p.length dp) rfl ⟨(w.heap.size + 1), 4, none⟩ Tryz.underlying22 rfl rfl FB.out.c4) ?_); (case hw => rfl); simp only [Act.put, List.setIfInBounds_toArray, List.set_cons_zero, List.set_cons_succ]) | ((with_reducible refine wl_run rfl (ex_eql _ 3 3 (.tmp 6) (.tmp 8) rfl .i64 d d rfl rfl true hd.out) ?_); simp only [Act.put, List.setIfInBounds_toArray, List.set_cons_zero, List.set_cons_succ]) | ((with_reducible refine wl_runG ?hw (ex_seql _ 9 9 (.tmp 12) (.tmp 14) rfl k k true hk.out rfl rfl) ?_); (case hw => rfl); simp only [Act.put, List.setIfInBounds_toArray, List.set_cons_zero, List.set_cons_succ]) | ((with_reducible refine wl_runG ?hw (ex_tostr _ 22 9 5 (.tmp 19) rfl Tryz.underlying22 Tryz.underlying5 Tryz.underlying9 (.slice At t.length ct) t hT1.out rfl) ?_); (case hw => rfl); simp only [Act.put, List.setIfInBounds_toArray, List.set_cons_zero, List.set_cons_succ]) | ((with_reducible refine wl_runG ?hw (ex_tostr _ 22 9 5 (.tmp 22) rfl Tryz.underlying22 Tryz.underlying5 Tryz.underlying9 (.slice Bt t.length dt) t hT2.out rfl) ?_); (case hw => rfl); simp only [Act.put, List.setIfInBounds_toArray, List.set_cons_zero, List.set_cons_succ]) | ((with_reducible refine wl_runG ?hw (ex_seql _ 9 9 (.tmp 20) (.tmp 23) rfl t t true ht.out rfl rfl) ?_); (case hw => rfl); simp only [Act.put, List.setIfInBounds_toArray, List.set_cons_zero, List.set_cons_succ]) | ((with_reducible refine wl_runG ?hw (ex_eql _ 3 3 (.tmp 28) (.tmp 30) rfl .i64 n n rfl rfl true hn.out) ?_); (case hw => rfl); simp only [Act.put, List.setIfInBounds_toArray, List.set_cons_zero, List.set_cons_succ]) | ((with_reducible refine wl_runG ?hw (ex_tostr _ 22 9 5 (.tmp 35) rfl Tryz.underlying22 Tryz.underlying5 Tryz.underlying9 (.slice Ap p.length cp) p hP1.out rfl) ?_); (case hw => rfl); simp only [Act.put, List.setIfInBounds_toArray, List.set_cons_zero, List.set_cons_succ]) | ((with_reducible refine wl_runG ?hw (ex_tostr _ 22 9 5 (.tmp 38) rfl Tryz.underlying22 Tryz.underlying5 Tryz.underlying9 (.slice Bp p.length dp) p hP2.out rfl) ?_); (case hw => rfl); simp only [Act.put, List.setIfInBounds_toArray, List.set_cons_zero, List.set_cons_succ]) | ((with_reducible refine wl_runG ?hw (ex_seql _ 9 9 (.tmp 36) (.tmp 39) rfl p p true hp.out rfl rfl) ?_); (case hw => rfl); simp only [Act.put, List.setIfInBounds_toArray, List.set_cons_zero, List.set_cons_succ]))
  go_ret
  exact ⟨rfl, K2.out⟩
end Go.Proofs.YtkcechpaeilaeaaGreatDoor
