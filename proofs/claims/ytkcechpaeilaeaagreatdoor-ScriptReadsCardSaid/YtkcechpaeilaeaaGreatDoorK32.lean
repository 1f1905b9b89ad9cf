/- Joined out of: P23. -/
import Derived.Test.YtkcechpaeilaeaaGreatDoorK16
import Derived.Test.YtkcechpaeilaeaaGreatDoorK5
set_option linter.unusedVariables false
set_option linter.unusedSimpArgs false
namespace Go.Proofs.YtkcechpaeilaeaaGreatDoor
open Go.RowKit
set_option maxRecDepth 100000
theorem conv_bs (w : World) (v : Value) (l : List UInt8) (hb : Bs w v (ints l)) : (convert 22 9 v).run Tryz.prog w = .ok (.string ⟨l.toArray⟩) w := by
 have hs := U22
 have he := U5
 have hd := U9
 obtain ⟨A, c, rfl, hc, hr⟩ := hb
 rw [ints_length]
 rcases hr with hr | ⟨b, off, rfl, hr⟩
 ·have : l = [] := by cases l with
   | nil => rfl
   | cons _ _ => simp [ints] at hr
  subst this
  cases A with
  | none => rw [run_convert_bytes_nil w 22 5 hs he _ _ 9 hd]; rfl
  | some ad => exact run_convert_bytes_back w 22 9 5 ad c [] hs he hd (fun j hj => by simp at hj)
 ·refine run_convert_bytes_back w 22 9 5 _ c l hs he hd (fun j hj => ?_)
  rw [Addr.add_mid]
  exact hr j _ (ints_get l j hj)
theorem beq_at (t1 t2 : List UInt8) (q : Bool) (hq : (t1 == t2) = q) {w : World} {v1 v2 : Value} (h1 : Bs w v1 (ints t1)) (h2 : Bs w v2 (ints t2)) :
  Calls Tryz.prog 95 #[v1, v2] w fun e w' => e = .returned (.bool q) ∧ w' = w := by
 have h := Tryz.bytes_Equal_strs v1 v2 ⟨t1.toArray⟩ ⟨t2.toArray⟩ w (conv_bs w v1 t1 h1) (conv_bs w v2 t2 h2)
 rw [toList_S, toList_S, hq] at h
 exact h
set_option maxHeartbeats 2000000 in
theorem sa13_0 (d1 d2 n1 n2 : Int) (k1 k2 t1 t2 p1 p2 : List UInt8) {w : World} {At Ap Bt Bp : Option Addr} {ct cp dt dp : Nat} (hT1 : Bs w (.slice At t1.length ct) (ints t1)) (hP1 : Bs w (.slice Ap p1.length cp) (ints p1)) (hT2 : Bs w (.slice Bt t2.length dt) (ints t2)) (hP2 : Bs w (.slice Bp p2.length dp) (ints p2)) (hd0 : decide (d1 = d2) = false) :
  Calls Tryz.prog 13 #[.agg #[.int .i64 d1, .string ⟨k1.toArray⟩, .slice At t1.length ct, .int .i64 n1, .slice Ap p1.length cp], .agg #[.int .i64 d2, .string ⟨k2.toArray⟩, .slice Bt t2.length dt, .int .i64 n2, .slice Bp p2.length dp]] w fun e w' => e = .returned (.bool false) ∧ KZ w w' := by
 have K1 : KZ w (w.alloc (.cells #[.int .i64 d1, .string ⟨k1.toArray⟩, .slice At t1.length ct, .int .i64 n1, .slice Ap p1.length cp] 24)) := (Kp.refl _ w).alloc _
 obtain ⟨w2, hw2⟩ : ∃ w2, w2 = (w.alloc (.cells #[.int .i64 d1, .string ⟨k1.toArray⟩, .slice At t1.length ct, .int .i64 n1, .slice Ap p1.length cp] 24)).alloc (.cells #[.int .i64 d2, .string ⟨k2.toArray⟩, .slice Bt t2.length dt, .int .i64 n2, .slice Bp p2.length dp] 24) := ⟨_, rfl⟩
 have K2 : KZ w w2 := hw2 ▸ K1.th ((Kp.refl _ _).alloc _)
 have FA : Hd (Fa w2 w.heap.size (.int .i64 d1) (.string ⟨k1.toArray⟩) (.slice At t1.length ct) (.int .i64 n1) (.slice Ap p1.length cp)) := ⟨hw2 ▸ (Fa.new w _ _ _ _ _).keep ((Kp.refl _ _).alloc _)⟩
 have FB : Hd (Fa w2 (w.heap.size + 1) (.int .i64 d2) (.string ⟨k2.toArray⟩) (.slice Bt t2.length dt) (.int .i64 n2) (.slice Bp p2.length dp)) := ⟨by
  have := Fa.new (w.alloc (.cells #[.int .i64 d1, .string ⟨k1.toArray⟩, .slice At t1.length ct, .int .i64 n1, .slice Ap p1.length cp] 24)) (.int .i64 d2) (.string ⟨k2.toArray⟩) (.slice Bt t2.length dt) (.int .i64 n2) (.slice Bp p2.length dp)
  rw [← hw2] at this
  have e : (w.alloc (.cells #[.int .i64 d1, .string ⟨k1.toArray⟩, .slice At t1.length ct, .int .i64 n1, .slice Ap p1.length cp] 24)).heap.size = w.heap.size + 1 := by
   show (w.heap.push _).size = _
   simp
  rw [e] at this
  exact this⟩
 have hT1 : Hd (Bs w2 (.slice At t1.length ct) (ints t1)) := ⟨bs_kpz hT1 K2⟩
 have hT2 : Hd (Bs w2 (.slice Bt t2.length dt) (ints t2)) := ⟨bs_kpz hT2 K2⟩
 have hP1 : Hd (Bs w2 (.slice Ap p1.length cp) (ints p1)) := ⟨bs_kpz hP1 K2⟩
 have hP2 : Hd (Bs w2 (.slice Bp p2.length dp) (ints p2)) := ⟨bs_kpz hP2 K2⟩
 have K2 := Hd.mk K2
 have hd := Hd.mk hd0
 have hw2 := Hd.mk hw2
 clear K1 hd0
 go_enter Tryz.func13, Tryz.ntmps13
 go_wp2_with (first | (rewrite [← hw2.out]) | ((with_reducible refine wl_run rfl (ex_load _ 3 _ (.int .i64 d1) rfl ⟨w.heap.size, 0, none⟩ U3 rfl rfl FA.out.c0) ?_)) | ((with_reducible refine wl_run rfl (ex_load _ 3 _ (.int .i64 d2) rfl ⟨(w.heap.size + 1), 0, none⟩ U3 rfl rfl FB.out.c0) ?_)) | ((with_reducible refine wl_run rfl (ex_eql _ 3 3 (.tmp 6) (.tmp 8) rfl .i64 d1 d2 rfl rfl false hd.out) ?_)))
 go_ret
 exact ⟨rfl, K2.out⟩
set_option maxHeartbeats 2000000 in
theorem sa13_1 (d1 d2 n1 n2 : Int) (k1 k2 t1 t2 p1 p2 : List UInt8) {w : World} {At Ap Bt Bp : Option Addr} {ct cp dt dp : Nat} (hT1 : Bs w (.slice At t1.length ct) (ints t1)) (hP1 : Bs w (.slice Ap p1.length cp) (ints p1)) (hT2 : Bs w (.slice Bt t2.length dt) (ints t2)) (hP2 : Bs w (.slice Bp p2.length dp) (ints p2)) (hd0 : decide (d1 = d2) = true) (hk0 : (k1 == k2) = false) :
  Calls Tryz.prog 13 #[.agg #[.int .i64 d1, .string ⟨k1.toArray⟩, .slice At t1.length ct, .int .i64 n1, .slice Ap p1.length cp], .agg #[.int .i64 d2, .string ⟨k2.toArray⟩, .slice Bt t2.length dt, .int .i64 n2, .slice Bp p2.length dp]] w fun e w' => e = .returned (.bool false) ∧ KZ w w' := by
 have K1 : KZ w (w.alloc (.cells #[.int .i64 d1, .string ⟨k1.toArray⟩, .slice At t1.length ct, .int .i64 n1, .slice Ap p1.length cp] 24)) := (Kp.refl _ w).alloc _
 obtain ⟨w2, hw2⟩ : ∃ w2, w2 = (w.alloc (.cells #[.int .i64 d1, .string ⟨k1.toArray⟩, .slice At t1.length ct, .int .i64 n1, .slice Ap p1.length cp] 24)).alloc (.cells #[.int .i64 d2, .string ⟨k2.toArray⟩, .slice Bt t2.length dt, .int .i64 n2, .slice Bp p2.length dp] 24) := ⟨_, rfl⟩
 have K2 : KZ w w2 := hw2 ▸ K1.th ((Kp.refl _ _).alloc _)
 have FA : Hd (Fa w2 w.heap.size (.int .i64 d1) (.string ⟨k1.toArray⟩) (.slice At t1.length ct) (.int .i64 n1) (.slice Ap p1.length cp)) := ⟨hw2 ▸ (Fa.new w _ _ _ _ _).keep ((Kp.refl _ _).alloc _)⟩
 have FB : Hd (Fa w2 (w.heap.size + 1) (.int .i64 d2) (.string ⟨k2.toArray⟩) (.slice Bt t2.length dt) (.int .i64 n2) (.slice Bp p2.length dp)) := ⟨by
  have := Fa.new (w.alloc (.cells #[.int .i64 d1, .string ⟨k1.toArray⟩, .slice At t1.length ct, .int .i64 n1, .slice Ap p1.length cp] 24)) (.int .i64 d2) (.string ⟨k2.toArray⟩) (.slice Bt t2.length dt) (.int .i64 n2) (.slice Bp p2.length dp)
  rw [← hw2] at this
  have e : (w.alloc (.cells #[.int .i64 d1, .string ⟨k1.toArray⟩, .slice At t1.length ct, .int .i64 n1, .slice Ap p1.length cp] 24)).heap.size = w.heap.size + 1 := by
   show (w.heap.push _).size = _
   simp
  rw [e] at this
  exact this⟩
 have hT1 : Hd (Bs w2 (.slice At t1.length ct) (ints t1)) := ⟨bs_kpz hT1 K2⟩
 have hT2 : Hd (Bs w2 (.slice Bt t2.length dt) (ints t2)) := ⟨bs_kpz hT2 K2⟩
 have hP1 : Hd (Bs w2 (.slice Ap p1.length cp) (ints p1)) := ⟨bs_kpz hP1 K2⟩
 have hP2 : Hd (Bs w2 (.slice Bp p2.length dp) (ints p2)) := ⟨bs_kpz hP2 K2⟩
 have K2 := Hd.mk K2
 have hd := Hd.mk hd0
 have hk := Hd.mk hk0
 have hw2 := Hd.mk hw2
 clear K1 hd0 hk0
 go_enter Tryz.func13, Tryz.ntmps13
 go_wp2_with (first | (rewrite [← hw2.out]) | ((with_reducible refine wl_run rfl (ex_load _ 3 _ (.int .i64 d1) rfl ⟨w.heap.size, 0, none⟩ U3 rfl rfl FA.out.c0) ?_)) | ((with_reducible refine wl_run rfl (ex_load _ 3 _ (.int .i64 d2) rfl ⟨(w.heap.size + 1), 0, none⟩ U3 rfl rfl FB.out.c0) ?_)) | ((with_reducible refine wl_run rfl (ex_eql _ 3 3 (.tmp 6) (.tmp 8) rfl .i64 d1 d2 rfl rfl true hd.out) ?_)) | ((with_reducible refine wl_runG ?hw (ex_load _ 9 _ (.string ⟨k1.toArray⟩) rfl ⟨w.heap.size, 1, none⟩ U9 rfl rfl FA.out.c1) ?_); (case hw => rfl)) | ((with_reducible refine wl_runG ?hw (ex_load _ 9 _ (.string ⟨k2.toArray⟩) rfl ⟨(w.heap.size + 1), 1, none⟩ U9 rfl rfl FB.out.c1) ?_); (case hw => rfl)) | ((with_reducible refine wl_runG ?hw (ex_seql _ 9 9 (.tmp 12) (.tmp 14) rfl k1 k2 false hk.out rfl rfl) ?_); (case hw => rfl)))
 go_ret
 exact ⟨rfl, K2.out⟩
set_option maxHeartbeats 2000000 in
theorem sa13_2 (d1 d2 n1 n2 : Int) (k1 k2 t1 t2 p1 p2 : List UInt8) {w : World} {At Ap Bt Bp : Option Addr} {ct cp dt dp : Nat} (hT1 : Bs w (.slice At t1.length ct) (ints t1)) (hP1 : Bs w (.slice Ap p1.length cp) (ints p1)) (hT2 : Bs w (.slice Bt t2.length dt) (ints t2)) (hP2 : Bs w (.slice Bp p2.length dp) (ints p2)) (hd0 : decide (d1 = d2) = true) (hk0 : (k1 == k2) = true) (ht0 : (t1 == t2) = false) :
  Calls Tryz.prog 13 #[.agg #[.int .i64 d1, .string ⟨k1.toArray⟩, .slice At t1.length ct, .int .i64 n1, .slice Ap p1.length cp], .agg #[.int .i64 d2, .string ⟨k2.toArray⟩, .slice Bt t2.length dt, .int .i64 n2, .slice Bp p2.length dp]] w fun e w' => e = .returned (.bool false) ∧ KZ w w' := by
 have K1 : KZ w (w.alloc (.cells #[.int .i64 d1, .string ⟨k1.toArray⟩, .slice At t1.length ct, .int .i64 n1, .slice Ap p1.length cp] 24)) := (Kp.refl _ w).alloc _
 obtain ⟨w2, hw2⟩ : ∃ w2, w2 = (w.alloc (.cells #[.int .i64 d1, .string ⟨k1.toArray⟩, .slice At t1.length ct, .int .i64 n1, .slice Ap p1.length cp] 24)).alloc (.cells #[.int .i64 d2, .string ⟨k2.toArray⟩, .slice Bt t2.length dt, .int .i64 n2, .slice Bp p2.length dp] 24) := ⟨_, rfl⟩
 have K2 : KZ w w2 := hw2 ▸ K1.th ((Kp.refl _ _).alloc _)
 have FA : Hd (Fa w2 w.heap.size (.int .i64 d1) (.string ⟨k1.toArray⟩) (.slice At t1.length ct) (.int .i64 n1) (.slice Ap p1.length cp)) := ⟨hw2 ▸ (Fa.new w _ _ _ _ _).keep ((Kp.refl _ _).alloc _)⟩
 have FB : Hd (Fa w2 (w.heap.size + 1) (.int .i64 d2) (.string ⟨k2.toArray⟩) (.slice Bt t2.length dt) (.int .i64 n2) (.slice Bp p2.length dp)) := ⟨by
  have := Fa.new (w.alloc (.cells #[.int .i64 d1, .string ⟨k1.toArray⟩, .slice At t1.length ct, .int .i64 n1, .slice Ap p1.length cp] 24)) (.int .i64 d2) (.string ⟨k2.toArray⟩) (.slice Bt t2.length dt) (.int .i64 n2) (.slice Bp p2.length dp)
  rw [← hw2] at this
  have e : (w.alloc (.cells #[.int .i64 d1, .string ⟨k1.toArray⟩, .slice At t1.length ct, .int .i64 n1, .slice Ap p1.length cp] 24)).heap.size = w.heap.size + 1 := by
   show (w.heap.push _).size = _
   simp
  rw [e] at this
  exact this⟩
 have hT1 : Hd (Bs w2 (.slice At t1.length ct) (ints t1)) := ⟨bs_kpz hT1 K2⟩
 have hT2 : Hd (Bs w2 (.slice Bt t2.length dt) (ints t2)) := ⟨bs_kpz hT2 K2⟩
 have hP1 : Hd (Bs w2 (.slice Ap p1.length cp) (ints p1)) := ⟨bs_kpz hP1 K2⟩
 have hP2 : Hd (Bs w2 (.slice Bp p2.length dp) (ints p2)) := ⟨bs_kpz hP2 K2⟩
 have K2 := Hd.mk K2
 have hd := Hd.mk hd0
 have hk := Hd.mk hk0
 have ht := Hd.mk ht0
 have hw2 := Hd.mk hw2
 clear K1 hd0 hk0 ht0
 go_enter Tryz.func13, Tryz.ntmps13
 go_wp2_with (first | (rewrite [← hw2.out]) | ((with_reducible refine wl_run rfl (ex_load _ 3 _ (.int .i64 d1) rfl ⟨w.heap.size, 0, none⟩ U3 rfl rfl FA.out.c0) ?_)) | ((with_reducible refine wl_run rfl (ex_load _ 3 _ (.int .i64 d2) rfl ⟨(w.heap.size + 1), 0, none⟩ U3 rfl rfl FB.out.c0) ?_)) | ((with_reducible refine wl_run rfl (ex_eql _ 3 3 (.tmp 6) (.tmp 8) rfl .i64 d1 d2 rfl rfl true hd.out) ?_)) | ((with_reducible refine wl_runG ?hw (ex_load _ 9 _ (.string ⟨k1.toArray⟩) rfl ⟨w.heap.size, 1, none⟩ U9 rfl rfl FA.out.c1) ?_); (case hw => rfl)) | ((with_reducible refine wl_runG ?hw (ex_load _ 9 _ (.string ⟨k2.toArray⟩) rfl ⟨(w.heap.size + 1), 1, none⟩ U9 rfl rfl FB.out.c1) ?_); (case hw => rfl)) | ((with_reducible refine wl_runG ?hw (ex_seql _ 9 9 (.tmp 12) (.tmp 14) rfl k1 k2 true hk.out rfl rfl) ?_); (case hw => rfl)) | ((with_reducible refine wl_runG ?hw (ex_load _ 22 _ (.slice At t1.length ct) rfl ⟨w.heap.size, 2, none⟩ U22 rfl rfl FA.out.c2) ?_); (case hw => rfl)) | ((with_reducible refine wl_runG ?hw (ex_load _ 22 _ (.slice Bt t2.length dt) rfl ⟨(w.heap.size + 1), 2, none⟩ U22 rfl rfl FB.out.c2) ?_); (case hw => rfl)) | ((with_reducible refine wl_runG ?hw (ex_tostr _ 22 9 5 (.tmp 19) rfl U22 U5 U9 (.slice At t1.length ct) t1 hT1.out rfl) ?_); (case hw => rfl)) | ((with_reducible refine wl_runG ?hw (ex_tostr _ 22 9 5 (.tmp 22) rfl U22 U5 U9 (.slice Bt t2.length dt) t2 hT2.out rfl) ?_); (case hw => rfl)) | ((with_reducible refine wl_runG ?hw (ex_seql _ 9 9 (.tmp 20) (.tmp 23) rfl t1 t2 false ht.out rfl rfl) ?_); (case hw => rfl)))
 go_ret
 exact ⟨rfl, K2.out⟩
set_option maxHeartbeats 2000000 in
theorem sa13_3 (d1 d2 n1 n2 : Int) (k1 k2 t1 t2 p1 p2 : List UInt8) {w : World} {At Ap Bt Bp : Option Addr} {ct cp dt dp : Nat} (hT1 : Bs w (.slice At t1.length ct) (ints t1)) (hP1 : Bs w (.slice Ap p1.length cp) (ints p1)) (hT2 : Bs w (.slice Bt t2.length dt) (ints t2)) (hP2 : Bs w (.slice Bp p2.length dp) (ints p2)) (hd0 : decide (d1 = d2) = true) (hk0 : (k1 == k2) = true) (ht0 : (t1 == t2) = true) (hn0 : decide (n1 = n2) = false) :
  Calls Tryz.prog 13 #[.agg #[.int .i64 d1, .string ⟨k1.toArray⟩, .slice At t1.length ct, .int .i64 n1, .slice Ap p1.length cp], .agg #[.int .i64 d2, .string ⟨k2.toArray⟩, .slice Bt t2.length dt, .int .i64 n2, .slice Bp p2.length dp]] w fun e w' => e = .returned (.bool false) ∧ KZ w w' := by
 have K1 : KZ w (w.alloc (.cells #[.int .i64 d1, .string ⟨k1.toArray⟩, .slice At t1.length ct, .int .i64 n1, .slice Ap p1.length cp] 24)) := (Kp.refl _ w).alloc _
 obtain ⟨w2, hw2⟩ : ∃ w2, w2 = (w.alloc (.cells #[.int .i64 d1, .string ⟨k1.toArray⟩, .slice At t1.length ct, .int .i64 n1, .slice Ap p1.length cp] 24)).alloc (.cells #[.int .i64 d2, .string ⟨k2.toArray⟩, .slice Bt t2.length dt, .int .i64 n2, .slice Bp p2.length dp] 24) := ⟨_, rfl⟩
 have K2 : KZ w w2 := hw2 ▸ K1.th ((Kp.refl _ _).alloc _)
 have FA : Hd (Fa w2 w.heap.size (.int .i64 d1) (.string ⟨k1.toArray⟩) (.slice At t1.length ct) (.int .i64 n1) (.slice Ap p1.length cp)) := ⟨hw2 ▸ (Fa.new w _ _ _ _ _).keep ((Kp.refl _ _).alloc _)⟩
 have FB : Hd (Fa w2 (w.heap.size + 1) (.int .i64 d2) (.string ⟨k2.toArray⟩) (.slice Bt t2.length dt) (.int .i64 n2) (.slice Bp p2.length dp)) := ⟨by
  have := Fa.new (w.alloc (.cells #[.int .i64 d1, .string ⟨k1.toArray⟩, .slice At t1.length ct, .int .i64 n1, .slice Ap p1.length cp] 24)) (.int .i64 d2) (.string ⟨k2.toArray⟩) (.slice Bt t2.length dt) (.int .i64 n2) (.slice Bp p2.length dp)
  rw [← hw2] at this
  have e : (w.alloc (.cells #[.int .i64 d1, .string ⟨k1.toArray⟩, .slice At t1.length ct, .int .i64 n1, .slice Ap p1.length cp] 24)).heap.size = w.heap.size + 1 := by
   show (w.heap.push _).size = _
   simp
  rw [e] at this
  exact this⟩
 have hT1 : Hd (Bs w2 (.slice At t1.length ct) (ints t1)) := ⟨bs_kpz hT1 K2⟩
 have hT2 : Hd (Bs w2 (.slice Bt t2.length dt) (ints t2)) := ⟨bs_kpz hT2 K2⟩
 have hP1 : Hd (Bs w2 (.slice Ap p1.length cp) (ints p1)) := ⟨bs_kpz hP1 K2⟩
 have hP2 : Hd (Bs w2 (.slice Bp p2.length dp) (ints p2)) := ⟨bs_kpz hP2 K2⟩
 have K2 := Hd.mk K2
 have hd := Hd.mk hd0
 have hk := Hd.mk hk0
 have ht := Hd.mk ht0
 have hn := Hd.mk hn0
 have hw2 := Hd.mk hw2
 clear K1 hd0 hk0 ht0 hn0
 go_enter Tryz.func13, Tryz.ntmps13
 go_wp2_with (first | (rewrite [← hw2.out]) | ((with_reducible refine wl_run rfl (ex_load _ 3 _ (.int .i64 d1) rfl ⟨w.heap.size, 0, none⟩ U3 rfl rfl FA.out.c0) ?_)) | ((with_reducible refine wl_run rfl (ex_load _ 3 _ (.int .i64 d2) rfl ⟨(w.heap.size + 1), 0, none⟩ U3 rfl rfl FB.out.c0) ?_)) | ((with_reducible refine wl_run rfl (ex_eql _ 3 3 (.tmp 6) (.tmp 8) rfl .i64 d1 d2 rfl rfl true hd.out) ?_)) | ((with_reducible refine wl_runG ?hw (ex_load _ 9 _ (.string ⟨k1.toArray⟩) rfl ⟨w.heap.size, 1, none⟩ U9 rfl rfl FA.out.c1) ?_); (case hw => rfl)) | ((with_reducible refine wl_runG ?hw (ex_load _ 9 _ (.string ⟨k2.toArray⟩) rfl ⟨(w.heap.size + 1), 1, none⟩ U9 rfl rfl FB.out.c1) ?_); (case hw => rfl)) | ((with_reducible refine wl_runG ?hw (ex_seql _ 9 9 (.tmp 12) (.tmp 14) rfl k1 k2 true hk.out rfl rfl) ?_); (case hw => rfl)) | ((with_reducible refine wl_runG ?hw (ex_load _ 22 _ (.slice At t1.length ct) rfl ⟨w.heap.size, 2, none⟩ U22 rfl rfl FA.out.c2) ?_); (case hw => rfl)) | ((with_reducible refine wl_runG ?hw (ex_load _ 22 _ (.slice Bt t2.length dt) rfl ⟨(w.heap.size + 1), 2, none⟩ U22 rfl rfl FB.out.c2) ?_); (case hw => rfl)) | ((with_reducible refine wl_runG ?hw (ex_tostr _ 22 9 5 (.tmp 19) rfl U22 U5 U9 (.slice At t1.length ct) t1 hT1.out rfl) ?_); (case hw => rfl)) | ((with_reducible refine wl_runG ?hw (ex_tostr _ 22 9 5 (.tmp 22) rfl U22 U5 U9 (.slice Bt t2.length dt) t2 hT2.out rfl) ?_); (case hw => rfl)) | ((with_reducible refine wl_runG ?hw (ex_seql _ 9 9 (.tmp 20) (.tmp 23) rfl t1 t2 true ht.out rfl rfl) ?_); (case hw => rfl)) | ((with_reducible refine wl_runG ?hw (ex_load _ 3 _ (.int .i64 n1) rfl ⟨w.heap.size, 3, none⟩ U3 rfl rfl FA.out.c3) ?_); (case hw => rfl)) | ((with_reducible refine wl_runG ?hw (ex_load _ 3 _ (.int .i64 n2) rfl ⟨(w.heap.size + 1), 3, none⟩ U3 rfl rfl FB.out.c3) ?_); (case hw => rfl)) | ((with_reducible refine wl_runG ?hw (ex_eql _ 3 3 (.tmp 28) (.tmp 30) rfl .i64 n1 n2 rfl rfl false hn.out) ?_); (case hw => rfl)))
 go_ret
 exact ⟨rfl, K2.out⟩
set_option maxHeartbeats 2000000 in
theorem sa13_4 (d1 d2 n1 n2 : Int) (k1 k2 t1 t2 p1 p2 : List UInt8) {w : World} {At Ap Bt Bp : Option Addr} {ct cp dt dp : Nat} (hT1 : Bs w (.slice At t1.length ct) (ints t1)) (hP1 : Bs w (.slice Ap p1.length cp) (ints p1)) (hT2 : Bs w (.slice Bt t2.length dt) (ints t2)) (hP2 : Bs w (.slice Bp p2.length dp) (ints p2)) (hd0 : decide (d1 = d2) = true) (hk0 : (k1 == k2) = true) (ht0 : (t1 == t2) = true) (hn0 : decide (n1 = n2) = true) (hp0 : (p1 == p2) = false) :
  Calls Tryz.prog 13 #[.agg #[.int .i64 d1, .string ⟨k1.toArray⟩, .slice At t1.length ct, .int .i64 n1, .slice Ap p1.length cp], .agg #[.int .i64 d2, .string ⟨k2.toArray⟩, .slice Bt t2.length dt, .int .i64 n2, .slice Bp p2.length dp]] w fun e w' => e = .returned (.bool false) ∧ KZ w w' := by
 have K1 : KZ w (w.alloc (.cells #[.int .i64 d1, .string ⟨k1.toArray⟩, .slice At t1.length ct, .int .i64 n1, .slice Ap p1.length cp] 24)) := (Kp.refl _ w).alloc _
 obtain ⟨w2, hw2⟩ : ∃ w2, w2 = (w.alloc (.cells #[.int .i64 d1, .string ⟨k1.toArray⟩, .slice At t1.length ct, .int .i64 n1, .slice Ap p1.length cp] 24)).alloc (.cells #[.int .i64 d2, .string ⟨k2.toArray⟩, .slice Bt t2.length dt, .int .i64 n2, .slice Bp p2.length dp] 24) := ⟨_, rfl⟩
 have K2 : KZ w w2 := hw2 ▸ K1.th ((Kp.refl _ _).alloc _)
 have FA : Hd (Fa w2 w.heap.size (.int .i64 d1) (.string ⟨k1.toArray⟩) (.slice At t1.length ct) (.int .i64 n1) (.slice Ap p1.length cp)) := ⟨hw2 ▸ (Fa.new w _ _ _ _ _).keep ((Kp.refl _ _).alloc _)⟩
 have FB : Hd (Fa w2 (w.heap.size + 1) (.int .i64 d2) (.string ⟨k2.toArray⟩) (.slice Bt t2.length dt) (.int .i64 n2) (.slice Bp p2.length dp)) := ⟨by
  have := Fa.new (w.alloc (.cells #[.int .i64 d1, .string ⟨k1.toArray⟩, .slice At t1.length ct, .int .i64 n1, .slice Ap p1.length cp] 24)) (.int .i64 d2) (.string ⟨k2.toArray⟩) (.slice Bt t2.length dt) (.int .i64 n2) (.slice Bp p2.length dp)
  rw [← hw2] at this
  have e : (w.alloc (.cells #[.int .i64 d1, .string ⟨k1.toArray⟩, .slice At t1.length ct, .int .i64 n1, .slice Ap p1.length cp] 24)).heap.size = w.heap.size + 1 := by
   show (w.heap.push _).size = _
   simp
  rw [e] at this
  exact this⟩
 have hT1 : Hd (Bs w2 (.slice At t1.length ct) (ints t1)) := ⟨bs_kpz hT1 K2⟩
 have hT2 : Hd (Bs w2 (.slice Bt t2.length dt) (ints t2)) := ⟨bs_kpz hT2 K2⟩
 have hP1 : Hd (Bs w2 (.slice Ap p1.length cp) (ints p1)) := ⟨bs_kpz hP1 K2⟩
 have hP2 : Hd (Bs w2 (.slice Bp p2.length dp) (ints p2)) := ⟨bs_kpz hP2 K2⟩
 have K2 := Hd.mk K2
 have hd := Hd.mk hd0
 have hk := Hd.mk hk0
 have ht := Hd.mk ht0
 have hn := Hd.mk hn0
 have hp := Hd.mk hp0
 have hw2 := Hd.mk hw2
 clear K1 hd0 hk0 ht0 hn0 hp0
 go_enter Tryz.func13, Tryz.ntmps13
 go_wp2_with (first | (rewrite [← hw2.out]) | ((with_reducible refine wl_run rfl (ex_load _ 3 _ (.int .i64 d1) rfl ⟨w.heap.size, 0, none⟩ U3 rfl rfl FA.out.c0) ?_)) | ((with_reducible refine wl_run rfl (ex_load _ 3 _ (.int .i64 d2) rfl ⟨(w.heap.size + 1), 0, none⟩ U3 rfl rfl FB.out.c0) ?_)) | ((with_reducible refine wl_run rfl (ex_eql _ 3 3 (.tmp 6) (.tmp 8) rfl .i64 d1 d2 rfl rfl true hd.out) ?_)) | ((with_reducible refine wl_runG ?hw (ex_load _ 9 _ (.string ⟨k1.toArray⟩) rfl ⟨w.heap.size, 1, none⟩ U9 rfl rfl FA.out.c1) ?_); (case hw => rfl)) | ((with_reducible refine wl_runG ?hw (ex_load _ 9 _ (.string ⟨k2.toArray⟩) rfl ⟨(w.heap.size + 1), 1, none⟩ U9 rfl rfl FB.out.c1) ?_); (case hw => rfl)) | ((with_reducible refine wl_runG ?hw (ex_seql _ 9 9 (.tmp 12) (.tmp 14) rfl k1 k2 true hk.out rfl rfl) ?_); (case hw => rfl)) | ((with_reducible refine wl_runG ?hw (ex_load _ 22 _ (.slice At t1.length ct) rfl ⟨w.heap.size, 2, none⟩ U22 rfl rfl FA.out.c2) ?_); (case hw => rfl)) | ((with_reducible refine wl_runG ?hw (ex_load _ 22 _ (.slice Bt t2.length dt) rfl ⟨(w.heap.size + 1), 2, none⟩ U22 rfl rfl FB.out.c2) ?_); (case hw => rfl)) | ((with_reducible refine wl_runG ?hw (ex_tostr _ 22 9 5 (.tmp 19) rfl U22 U5 U9 (.slice At t1.length ct) t1 hT1.out rfl) ?_); (case hw => rfl)) | ((with_reducible refine wl_runG ?hw (ex_tostr _ 22 9 5 (.tmp 22) rfl U22 U5 U9 (.slice Bt t2.length dt) t2 hT2.out rfl) ?_); (case hw => rfl)) | ((with_reducible refine wl_runG ?hw (ex_seql _ 9 9 (.tmp 20) (.tmp 23) rfl t1 t2 true ht.out rfl rfl) ?_); (case hw => rfl)) | ((with_reducible refine wl_runG ?hw (ex_load _ 3 _ (.int .i64 n1) rfl ⟨w.heap.size, 3, none⟩ U3 rfl rfl FA.out.c3) ?_); (case hw => rfl)) | ((with_reducible refine wl_runG ?hw (ex_load _ 3 _ (.int .i64 n2) rfl ⟨(w.heap.size + 1), 3, none⟩ U3 rfl rfl FB.out.c3) ?_); (case hw => rfl)) | ((with_reducible refine wl_runG ?hw (ex_eql _ 3 3 (.tmp 28) (.tmp 30) rfl .i64 n1 n2 rfl rfl true hn.out) ?_); (case hw => rfl)) | ((with_reducible refine wl_runG ?hw (ex_load _ 22 _ (.slice Ap p1.length cp) rfl ⟨w.heap.size, 4, none⟩ U22 rfl rfl FA.out.c4) ?_); (case hw => rfl)) | ((with_reducible refine wl_runG ?hw (ex_load _ 22 _ (.slice Bp p2.length dp) rfl ⟨(w.heap.size + 1), 4, none⟩ U22 rfl rfl FB.out.c4) ?_); (case hw => rfl)) | ((with_reducible refine wl_runG ?hw (ex_tostr _ 22 9 5 (.tmp 35) rfl U22 U5 U9 (.slice Ap p1.length cp) p1 hP1.out rfl) ?_); (case hw => rfl)) | ((with_reducible refine wl_runG ?hw (ex_tostr _ 22 9 5 (.tmp 38) rfl U22 U5 U9 (.slice Bp p2.length dp) p2 hP2.out rfl) ?_); (case hw => rfl)) | ((with_reducible refine wl_runG ?hw (ex_seql _ 9 9 (.tmp 36) (.tmp 39) rfl p1 p2 false hp.out rfl rfl) ?_); (case hw => rfl)))
 go_ret
 exact ⟨rfl, K2.out⟩
set_option maxHeartbeats 2000000 in
theorem sa13_5 (d1 d2 n1 n2 : Int) (k1 k2 t1 t2 p1 p2 : List UInt8) {w : World} {At Ap Bt Bp : Option Addr} {ct cp dt dp : Nat} (hT1 : Bs w (.slice At t1.length ct) (ints t1)) (hP1 : Bs w (.slice Ap p1.length cp) (ints p1)) (hT2 : Bs w (.slice Bt t2.length dt) (ints t2)) (hP2 : Bs w (.slice Bp p2.length dp) (ints p2)) (hd0 : decide (d1 = d2) = true) (hk0 : (k1 == k2) = true) (ht0 : (t1 == t2) = true) (hn0 : decide (n1 = n2) = true) (hp0 : (p1 == p2) = true) :
  Calls Tryz.prog 13 #[.agg #[.int .i64 d1, .string ⟨k1.toArray⟩, .slice At t1.length ct, .int .i64 n1, .slice Ap p1.length cp], .agg #[.int .i64 d2, .string ⟨k2.toArray⟩, .slice Bt t2.length dt, .int .i64 n2, .slice Bp p2.length dp]] w fun e w' => e = .returned (.bool true) ∧ KZ w w' := by
 have K1 : KZ w (w.alloc (.cells #[.int .i64 d1, .string ⟨k1.toArray⟩, .slice At t1.length ct, .int .i64 n1, .slice Ap p1.length cp] 24)) := (Kp.refl _ w).alloc _
 obtain ⟨w2, hw2⟩ : ∃ w2, w2 = (w.alloc (.cells #[.int .i64 d1, .string ⟨k1.toArray⟩, .slice At t1.length ct, .int .i64 n1, .slice Ap p1.length cp] 24)).alloc (.cells #[.int .i64 d2, .string ⟨k2.toArray⟩, .slice Bt t2.length dt, .int .i64 n2, .slice Bp p2.length dp] 24) := ⟨_, rfl⟩
 have K2 : KZ w w2 := hw2 ▸ K1.th ((Kp.refl _ _).alloc _)
 have FA : Hd (Fa w2 w.heap.size (.int .i64 d1) (.string ⟨k1.toArray⟩) (.slice At t1.length ct) (.int .i64 n1) (.slice Ap p1.length cp)) := ⟨hw2 ▸ (Fa.new w _ _ _ _ _).keep ((Kp.refl _ _).alloc _)⟩
 have FB : Hd (Fa w2 (w.heap.size + 1) (.int .i64 d2) (.string ⟨k2.toArray⟩) (.slice Bt t2.length dt) (.int .i64 n2) (.slice Bp p2.length dp)) := ⟨by
  have := Fa.new (w.alloc (.cells #[.int .i64 d1, .string ⟨k1.toArray⟩, .slice At t1.length ct, .int .i64 n1, .slice Ap p1.length cp] 24)) (.int .i64 d2) (.string ⟨k2.toArray⟩) (.slice Bt t2.length dt) (.int .i64 n2) (.slice Bp p2.length dp)
  rw [← hw2] at this
  have e : (w.alloc (.cells #[.int .i64 d1, .string ⟨k1.toArray⟩, .slice At t1.length ct, .int .i64 n1, .slice Ap p1.length cp] 24)).heap.size = w.heap.size + 1 := by
   show (w.heap.push _).size = _
   simp
  rw [e] at this
  exact this⟩
 have hT1 : Hd (Bs w2 (.slice At t1.length ct) (ints t1)) := ⟨bs_kpz hT1 K2⟩
 have hT2 : Hd (Bs w2 (.slice Bt t2.length dt) (ints t2)) := ⟨bs_kpz hT2 K2⟩
 have hP1 : Hd (Bs w2 (.slice Ap p1.length cp) (ints p1)) := ⟨bs_kpz hP1 K2⟩
 have hP2 : Hd (Bs w2 (.slice Bp p2.length dp) (ints p2)) := ⟨bs_kpz hP2 K2⟩
 have K2 := Hd.mk K2
 have hd := Hd.mk hd0
 have hk := Hd.mk hk0
 have ht := Hd.mk ht0
 have hn := Hd.mk hn0
 have hp := Hd.mk hp0
 have hw2 := Hd.mk hw2
 clear K1 hd0 hk0 ht0 hn0 hp0
 go_enter Tryz.func13, Tryz.ntmps13
 go_wp2_with (first | (rewrite [← hw2.out]) | ((with_reducible refine wl_run rfl (ex_load _ 3 _ (.int .i64 d1) rfl ⟨w.heap.size, 0, none⟩ U3 rfl rfl FA.out.c0) ?_)) | ((with_reducible refine wl_run rfl (ex_load _ 3 _ (.int .i64 d2) rfl ⟨(w.heap.size + 1), 0, none⟩ U3 rfl rfl FB.out.c0) ?_)) | ((with_reducible refine wl_run rfl (ex_eql _ 3 3 (.tmp 6) (.tmp 8) rfl .i64 d1 d2 rfl rfl true hd.out) ?_)) | ((with_reducible refine wl_runG ?hw (ex_load _ 9 _ (.string ⟨k1.toArray⟩) rfl ⟨w.heap.size, 1, none⟩ U9 rfl rfl FA.out.c1) ?_); (case hw => rfl)) | ((with_reducible refine wl_runG ?hw (ex_load _ 9 _ (.string ⟨k2.toArray⟩) rfl ⟨(w.heap.size + 1), 1, none⟩ U9 rfl rfl FB.out.c1) ?_); (case hw => rfl)) | ((with_reducible refine wl_runG ?hw (ex_seql _ 9 9 (.tmp 12) (.tmp 14) rfl k1 k2 true hk.out rfl rfl) ?_); (case hw => rfl)) | ((with_reducible refine wl_runG ?hw (ex_load _ 22 _ (.slice At t1.length ct) rfl ⟨w.heap.size, 2, none⟩ U22 rfl rfl FA.out.c2) ?_); (case hw => rfl)) | ((with_reducible refine wl_runG ?hw (ex_load _ 22 _ (.slice Bt t2.length dt) rfl ⟨(w.heap.size + 1), 2, none⟩ U22 rfl rfl FB.out.c2) ?_); (case hw => rfl)) | ((with_reducible refine wl_runG ?hw (ex_tostr _ 22 9 5 (.tmp 19) rfl U22 U5 U9 (.slice At t1.length ct) t1 hT1.out rfl) ?_); (case hw => rfl)) | ((with_reducible refine wl_runG ?hw (ex_tostr _ 22 9 5 (.tmp 22) rfl U22 U5 U9 (.slice Bt t2.length dt) t2 hT2.out rfl) ?_); (case hw => rfl)) | ((with_reducible refine wl_runG ?hw (ex_seql _ 9 9 (.tmp 20) (.tmp 23) rfl t1 t2 true ht.out rfl rfl) ?_); (case hw => rfl)) | ((with_reducible refine wl_runG ?hw (ex_load _ 3 _ (.int .i64 n1) rfl ⟨w.heap.size, 3, none⟩ U3 rfl rfl FA.out.c3) ?_); (case hw => rfl)) | ((with_reducible refine wl_runG ?hw (ex_load _ 3 _ (.int .i64 n2) rfl ⟨(w.heap.size + 1), 3, none⟩ U3 rfl rfl FB.out.c3) ?_); (case hw => rfl)) | ((with_reducible refine wl_runG ?hw (ex_eql _ 3 3 (.tmp 28) (.tmp 30) rfl .i64 n1 n2 rfl rfl true hn.out) ?_); (case hw => rfl)) | ((with_reducible refine wl_runG ?hw (ex_load _ 22 _ (.slice Ap p1.length cp) rfl ⟨w.heap.size, 4, none⟩ U22 rfl rfl FA.out.c4) ?_); (case hw => rfl)) | ((with_reducible refine wl_runG ?hw (ex_load _ 22 _ (.slice Bp p2.length dp) rfl ⟨(w.heap.size + 1), 4, none⟩ U22 rfl rfl FB.out.c4) ?_); (case hw => rfl)) | ((with_reducible refine wl_runG ?hw (ex_tostr _ 22 9 5 (.tmp 35) rfl U22 U5 U9 (.slice Ap p1.length cp) p1 hP1.out rfl) ?_); (case hw => rfl)) | ((with_reducible refine wl_runG ?hw (ex_tostr _ 22 9 5 (.tmp 38) rfl U22 U5 U9 (.slice Bp p2.length dp) p2 hP2.out rfl) ?_); (case hw => rfl)) | ((with_reducible refine wl_runG ?hw (ex_seql _ 9 9 (.tmp 36) (.tmp 39) rfl p1 p2 true hp.out rfl rfl) ?_); (case hw => rfl)))
 go_ret
 exact ⟨rfl, K2.out⟩
set_option maxHeartbeats 2000000 in
theorem sa73_0 (d1 d2 n1 n2 : Int) (k1 k2 t1 t2 p1 p2 : List UInt8) {w : World} {At Ap Bt Bp : Option Addr} {ct cp dt dp : Nat} (hT1 : Bs w (.slice At t1.length ct) (ints t1)) (hP1 : Bs w (.slice Ap p1.length cp) (ints p1)) (hT2 : Bs w (.slice Bt t2.length dt) (ints t2)) (hP2 : Bs w (.slice Bp p2.length dp) (ints p2)) (hd0 : decide (d1 = d2) = false) :
  Calls Tryz.prog 73 #[.agg #[.int .i64 d1, .string ⟨k1.toArray⟩, .slice At t1.length ct, .int .i64 n1, .slice Ap p1.length cp], .agg #[.int .i64 d2, .string ⟨k2.toArray⟩, .slice Bt t2.length dt, .int .i64 n2, .slice Bp p2.length dp]] w fun e w' => e = .returned (.bool false) ∧ KZ w w' := by
 have K1 : KZ w (w.alloc (.cells #[.int .i64 d1, .string ⟨k1.toArray⟩, .slice At t1.length ct, .int .i64 n1, .slice Ap p1.length cp] 24)) := (Kp.refl _ w).alloc _
 obtain ⟨w2, hw2⟩ : ∃ w2, w2 = (w.alloc (.cells #[.int .i64 d1, .string ⟨k1.toArray⟩, .slice At t1.length ct, .int .i64 n1, .slice Ap p1.length cp] 24)).alloc (.cells #[.int .i64 d2, .string ⟨k2.toArray⟩, .slice Bt t2.length dt, .int .i64 n2, .slice Bp p2.length dp] 24) := ⟨_, rfl⟩
 have K2 : KZ w w2 := hw2 ▸ K1.th ((Kp.refl _ _).alloc _)
 have FA : Hd (Fa w2 w.heap.size (.int .i64 d1) (.string ⟨k1.toArray⟩) (.slice At t1.length ct) (.int .i64 n1) (.slice Ap p1.length cp)) := ⟨hw2 ▸ (Fa.new w _ _ _ _ _).keep ((Kp.refl _ _).alloc _)⟩
 have FB : Hd (Fa w2 (w.heap.size + 1) (.int .i64 d2) (.string ⟨k2.toArray⟩) (.slice Bt t2.length dt) (.int .i64 n2) (.slice Bp p2.length dp)) := ⟨by
  have := Fa.new (w.alloc (.cells #[.int .i64 d1, .string ⟨k1.toArray⟩, .slice At t1.length ct, .int .i64 n1, .slice Ap p1.length cp] 24)) (.int .i64 d2) (.string ⟨k2.toArray⟩) (.slice Bt t2.length dt) (.int .i64 n2) (.slice Bp p2.length dp)
  rw [← hw2] at this
  have e : (w.alloc (.cells #[.int .i64 d1, .string ⟨k1.toArray⟩, .slice At t1.length ct, .int .i64 n1, .slice Ap p1.length cp] 24)).heap.size = w.heap.size + 1 := by
   show (w.heap.push _).size = _
   simp
  rw [e] at this
  exact this⟩
 have hT1 : Hd (Bs w2 (.slice At t1.length ct) (ints t1)) := ⟨bs_kpz hT1 K2⟩
 have hT2 : Hd (Bs w2 (.slice Bt t2.length dt) (ints t2)) := ⟨bs_kpz hT2 K2⟩
 have hP1 : Hd (Bs w2 (.slice Ap p1.length cp) (ints p1)) := ⟨bs_kpz hP1 K2⟩
 have hP2 : Hd (Bs w2 (.slice Bp p2.length dp) (ints p2)) := ⟨bs_kpz hP2 K2⟩
 have K2 := Hd.mk K2
 have hd := Hd.mk hd0
 have hw2 := Hd.mk hw2
 clear K1 hd0
 go_enter Tryz.func73, Tryz.ntmps73
 go_wp2_with (first | (rewrite [← hw2.out]) | ((with_reducible refine wl_run rfl (ex_load _ 3 _ (.int .i64 d1) rfl ⟨w.heap.size, 0, none⟩ U3 rfl rfl FA.out.c0) ?_)) | ((with_reducible refine wl_run rfl (ex_load _ 3 _ (.int .i64 d2) rfl ⟨(w.heap.size + 1), 0, none⟩ U3 rfl rfl FB.out.c0) ?_)) | ((with_reducible refine wl_run rfl (ex_eql _ 3 3 (.tmp 6) (.tmp 8) rfl .i64 d1 d2 rfl rfl false hd.out) ?_)))
 go_ret
 exact ⟨rfl, K2.out⟩
set_option maxHeartbeats 2000000 in
theorem sa73_1 (d1 d2 n1 n2 : Int) (k1 k2 t1 t2 p1 p2 : List UInt8) {w : World} {At Ap Bt Bp : Option Addr} {ct cp dt dp : Nat} (hT1 : Bs w (.slice At t1.length ct) (ints t1)) (hP1 : Bs w (.slice Ap p1.length cp) (ints p1)) (hT2 : Bs w (.slice Bt t2.length dt) (ints t2)) (hP2 : Bs w (.slice Bp p2.length dp) (ints p2)) (hd0 : decide (d1 = d2) = true) (hk0 : (k1 == k2) = false) :
  Calls Tryz.prog 73 #[.agg #[.int .i64 d1, .string ⟨k1.toArray⟩, .slice At t1.length ct, .int .i64 n1, .slice Ap p1.length cp], .agg #[.int .i64 d2, .string ⟨k2.toArray⟩, .slice Bt t2.length dt, .int .i64 n2, .slice Bp p2.length dp]] w fun e w' => e = .returned (.bool false) ∧ KZ w w' := by
 have K1 : KZ w (w.alloc (.cells #[.int .i64 d1, .string ⟨k1.toArray⟩, .slice At t1.length ct, .int .i64 n1, .slice Ap p1.length cp] 24)) := (Kp.refl _ w).alloc _
 obtain ⟨w2, hw2⟩ : ∃ w2, w2 = (w.alloc (.cells #[.int .i64 d1, .string ⟨k1.toArray⟩, .slice At t1.length ct, .int .i64 n1, .slice Ap p1.length cp] 24)).alloc (.cells #[.int .i64 d2, .string ⟨k2.toArray⟩, .slice Bt t2.length dt, .int .i64 n2, .slice Bp p2.length dp] 24) := ⟨_, rfl⟩
 have K2 : KZ w w2 := hw2 ▸ K1.th ((Kp.refl _ _).alloc _)
 have FA : Hd (Fa w2 w.heap.size (.int .i64 d1) (.string ⟨k1.toArray⟩) (.slice At t1.length ct) (.int .i64 n1) (.slice Ap p1.length cp)) := ⟨hw2 ▸ (Fa.new w _ _ _ _ _).keep ((Kp.refl _ _).alloc _)⟩
 have FB : Hd (Fa w2 (w.heap.size + 1) (.int .i64 d2) (.string ⟨k2.toArray⟩) (.slice Bt t2.length dt) (.int .i64 n2) (.slice Bp p2.length dp)) := ⟨by
  have := Fa.new (w.alloc (.cells #[.int .i64 d1, .string ⟨k1.toArray⟩, .slice At t1.length ct, .int .i64 n1, .slice Ap p1.length cp] 24)) (.int .i64 d2) (.string ⟨k2.toArray⟩) (.slice Bt t2.length dt) (.int .i64 n2) (.slice Bp p2.length dp)
  rw [← hw2] at this
  have e : (w.alloc (.cells #[.int .i64 d1, .string ⟨k1.toArray⟩, .slice At t1.length ct, .int .i64 n1, .slice Ap p1.length cp] 24)).heap.size = w.heap.size + 1 := by
   show (w.heap.push _).size = _
   simp
  rw [e] at this
  exact this⟩
 have hT1 : Hd (Bs w2 (.slice At t1.length ct) (ints t1)) := ⟨bs_kpz hT1 K2⟩
 have hT2 : Hd (Bs w2 (.slice Bt t2.length dt) (ints t2)) := ⟨bs_kpz hT2 K2⟩
 have hP1 : Hd (Bs w2 (.slice Ap p1.length cp) (ints p1)) := ⟨bs_kpz hP1 K2⟩
 have hP2 : Hd (Bs w2 (.slice Bp p2.length dp) (ints p2)) := ⟨bs_kpz hP2 K2⟩
 have K2 := Hd.mk K2
 have hd := Hd.mk hd0
 have hk := Hd.mk hk0
 have hw2 := Hd.mk hw2
 clear K1 hd0 hk0
 go_enter Tryz.func73, Tryz.ntmps73
 go_wp2_with (first | (rewrite [← hw2.out]) | ((with_reducible refine wl_run rfl (ex_load _ 3 _ (.int .i64 d1) rfl ⟨w.heap.size, 0, none⟩ U3 rfl rfl FA.out.c0) ?_)) | ((with_reducible refine wl_run rfl (ex_load _ 3 _ (.int .i64 d2) rfl ⟨(w.heap.size + 1), 0, none⟩ U3 rfl rfl FB.out.c0) ?_)) | ((with_reducible refine wl_run rfl (ex_eql _ 3 3 (.tmp 6) (.tmp 8) rfl .i64 d1 d2 rfl rfl true hd.out) ?_)) | ((with_reducible refine wl_runG ?hw (ex_load _ 9 _ (.string ⟨k1.toArray⟩) rfl ⟨w.heap.size, 1, none⟩ U9 rfl rfl FA.out.c1) ?_); (case hw => rfl)) | ((with_reducible refine wl_runG ?hw (ex_load _ 9 _ (.string ⟨k2.toArray⟩) rfl ⟨(w.heap.size + 1), 1, none⟩ U9 rfl rfl FB.out.c1) ?_); (case hw => rfl)) | ((with_reducible refine wl_runG ?hw (ex_seql _ 9 9 (.tmp 12) (.tmp 14) rfl k1 k2 false hk.out rfl rfl) ?_); (case hw => rfl)))
 go_ret
 exact ⟨rfl, K2.out⟩
set_option maxHeartbeats 2000000 in
theorem sa73_2 (d1 d2 n1 n2 : Int) (k1 k2 t1 t2 p1 p2 : List UInt8) {w : World} {At Ap Bt Bp : Option Addr} {ct cp dt dp : Nat} (hT1 : Bs w (.slice At t1.length ct) (ints t1)) (hP1 : Bs w (.slice Ap p1.length cp) (ints p1)) (hT2 : Bs w (.slice Bt t2.length dt) (ints t2)) (hP2 : Bs w (.slice Bp p2.length dp) (ints p2)) (hd0 : decide (d1 = d2) = true) (hk0 : (k1 == k2) = true) (hn0 : decide (n1 = n2) = false) :
  Calls Tryz.prog 73 #[.agg #[.int .i64 d1, .string ⟨k1.toArray⟩, .slice At t1.length ct, .int .i64 n1, .slice Ap p1.length cp], .agg #[.int .i64 d2, .string ⟨k2.toArray⟩, .slice Bt t2.length dt, .int .i64 n2, .slice Bp p2.length dp]] w fun e w' => e = .returned (.bool false) ∧ KZ w w' := by
 have K1 : KZ w (w.alloc (.cells #[.int .i64 d1, .string ⟨k1.toArray⟩, .slice At t1.length ct, .int .i64 n1, .slice Ap p1.length cp] 24)) := (Kp.refl _ w).alloc _
 obtain ⟨w2, hw2⟩ : ∃ w2, w2 = (w.alloc (.cells #[.int .i64 d1, .string ⟨k1.toArray⟩, .slice At t1.length ct, .int .i64 n1, .slice Ap p1.length cp] 24)).alloc (.cells #[.int .i64 d2, .string ⟨k2.toArray⟩, .slice Bt t2.length dt, .int .i64 n2, .slice Bp p2.length dp] 24) := ⟨_, rfl⟩
 have K2 : KZ w w2 := hw2 ▸ K1.th ((Kp.refl _ _).alloc _)
 have FA : Hd (Fa w2 w.heap.size (.int .i64 d1) (.string ⟨k1.toArray⟩) (.slice At t1.length ct) (.int .i64 n1) (.slice Ap p1.length cp)) := ⟨hw2 ▸ (Fa.new w _ _ _ _ _).keep ((Kp.refl _ _).alloc _)⟩
 have FB : Hd (Fa w2 (w.heap.size + 1) (.int .i64 d2) (.string ⟨k2.toArray⟩) (.slice Bt t2.length dt) (.int .i64 n2) (.slice Bp p2.length dp)) := ⟨by
  have := Fa.new (w.alloc (.cells #[.int .i64 d1, .string ⟨k1.toArray⟩, .slice At t1.length ct, .int .i64 n1, .slice Ap p1.length cp] 24)) (.int .i64 d2) (.string ⟨k2.toArray⟩) (.slice Bt t2.length dt) (.int .i64 n2) (.slice Bp p2.length dp)
  rw [← hw2] at this
  have e : (w.alloc (.cells #[.int .i64 d1, .string ⟨k1.toArray⟩, .slice At t1.length ct, .int .i64 n1, .slice Ap p1.length cp] 24)).heap.size = w.heap.size + 1 := by
   show (w.heap.push _).size = _
   simp
  rw [e] at this
  exact this⟩
 have hT1 : Hd (Bs w2 (.slice At t1.length ct) (ints t1)) := ⟨bs_kpz hT1 K2⟩
 have hT2 : Hd (Bs w2 (.slice Bt t2.length dt) (ints t2)) := ⟨bs_kpz hT2 K2⟩
 have hP1 : Hd (Bs w2 (.slice Ap p1.length cp) (ints p1)) := ⟨bs_kpz hP1 K2⟩
 have hP2 : Hd (Bs w2 (.slice Bp p2.length dp) (ints p2)) := ⟨bs_kpz hP2 K2⟩
 have K2 := Hd.mk K2
 have hd := Hd.mk hd0
 have hk := Hd.mk hk0
 have hn := Hd.mk hn0
 have hw2 := Hd.mk hw2
 clear K1 hd0 hk0 hn0
 go_enter Tryz.func73, Tryz.ntmps73
 go_wp2_with (first | (rewrite [← hw2.out]) | ((with_reducible refine wl_run rfl (ex_load _ 3 _ (.int .i64 d1) rfl ⟨w.heap.size, 0, none⟩ U3 rfl rfl FA.out.c0) ?_)) | ((with_reducible refine wl_run rfl (ex_load _ 3 _ (.int .i64 d2) rfl ⟨(w.heap.size + 1), 0, none⟩ U3 rfl rfl FB.out.c0) ?_)) | ((with_reducible refine wl_run rfl (ex_eql _ 3 3 (.tmp 6) (.tmp 8) rfl .i64 d1 d2 rfl rfl true hd.out) ?_)) | ((with_reducible refine wl_runG ?hw (ex_load _ 9 _ (.string ⟨k1.toArray⟩) rfl ⟨w.heap.size, 1, none⟩ U9 rfl rfl FA.out.c1) ?_); (case hw => rfl)) | ((with_reducible refine wl_runG ?hw (ex_load _ 9 _ (.string ⟨k2.toArray⟩) rfl ⟨(w.heap.size + 1), 1, none⟩ U9 rfl rfl FB.out.c1) ?_); (case hw => rfl)) | ((with_reducible refine wl_runG ?hw (ex_seql _ 9 9 (.tmp 12) (.tmp 14) rfl k1 k2 true hk.out rfl rfl) ?_); (case hw => rfl)) | ((with_reducible refine wl_runG ?hw (ex_load _ 3 _ (.int .i64 n1) rfl ⟨w.heap.size, 3, none⟩ U3 rfl rfl FA.out.c3) ?_); (case hw => rfl)) | ((with_reducible refine wl_runG ?hw (ex_load _ 3 _ (.int .i64 n2) rfl ⟨(w.heap.size + 1), 3, none⟩ U3 rfl rfl FB.out.c3) ?_); (case hw => rfl)) | ((with_reducible refine wl_runG ?hw (ex_eql _ 3 3 (.tmp 19) (.tmp 21) rfl .i64 n1 n2 rfl rfl false hn.out) ?_); (case hw => rfl)))
 go_ret
 exact ⟨rfl, K2.out⟩
set_option maxHeartbeats 2000000 in
theorem sa73_3 (d1 d2 n1 n2 : Int) (k1 k2 t1 t2 p1 p2 : List UInt8) {w : World} {At Ap Bt Bp : Option Addr} {ct cp dt dp : Nat} (hT1 : Bs w (.slice At t1.length ct) (ints t1)) (hP1 : Bs w (.slice Ap p1.length cp) (ints p1)) (hT2 : Bs w (.slice Bt t2.length dt) (ints t2)) (hP2 : Bs w (.slice Bp p2.length dp) (ints p2)) (hd0 : decide (d1 = d2) = true) (hk0 : (k1 == k2) = true) (hn0 : decide (n1 = n2) = true) (ht0 : (t1 == t2) = false) :
  Calls Tryz.prog 73 #[.agg #[.int .i64 d1, .string ⟨k1.toArray⟩, .slice At t1.length ct, .int .i64 n1, .slice Ap p1.length cp], .agg #[.int .i64 d2, .string ⟨k2.toArray⟩, .slice Bt t2.length dt, .int .i64 n2, .slice Bp p2.length dp]] w fun e w' => e = .returned (.bool false) ∧ KZ w w' := by
 have K1 : KZ w (w.alloc (.cells #[.int .i64 d1, .string ⟨k1.toArray⟩, .slice At t1.length ct, .int .i64 n1, .slice Ap p1.length cp] 24)) := (Kp.refl _ w).alloc _
 obtain ⟨w2, hw2⟩ : ∃ w2, w2 = (w.alloc (.cells #[.int .i64 d1, .string ⟨k1.toArray⟩, .slice At t1.length ct, .int .i64 n1, .slice Ap p1.length cp] 24)).alloc (.cells #[.int .i64 d2, .string ⟨k2.toArray⟩, .slice Bt t2.length dt, .int .i64 n2, .slice Bp p2.length dp] 24) := ⟨_, rfl⟩
 have K2 : KZ w w2 := hw2 ▸ K1.th ((Kp.refl _ _).alloc _)
 have FA : Hd (Fa w2 w.heap.size (.int .i64 d1) (.string ⟨k1.toArray⟩) (.slice At t1.length ct) (.int .i64 n1) (.slice Ap p1.length cp)) := ⟨hw2 ▸ (Fa.new w _ _ _ _ _).keep ((Kp.refl _ _).alloc _)⟩
 have FB : Hd (Fa w2 (w.heap.size + 1) (.int .i64 d2) (.string ⟨k2.toArray⟩) (.slice Bt t2.length dt) (.int .i64 n2) (.slice Bp p2.length dp)) := ⟨by
  have := Fa.new (w.alloc (.cells #[.int .i64 d1, .string ⟨k1.toArray⟩, .slice At t1.length ct, .int .i64 n1, .slice Ap p1.length cp] 24)) (.int .i64 d2) (.string ⟨k2.toArray⟩) (.slice Bt t2.length dt) (.int .i64 n2) (.slice Bp p2.length dp)
  rw [← hw2] at this
  have e : (w.alloc (.cells #[.int .i64 d1, .string ⟨k1.toArray⟩, .slice At t1.length ct, .int .i64 n1, .slice Ap p1.length cp] 24)).heap.size = w.heap.size + 1 := by
   show (w.heap.push _).size = _
   simp
  rw [e] at this
  exact this⟩
 have hT1 : Hd (Bs w2 (.slice At t1.length ct) (ints t1)) := ⟨bs_kpz hT1 K2⟩
 have hT2 : Hd (Bs w2 (.slice Bt t2.length dt) (ints t2)) := ⟨bs_kpz hT2 K2⟩
 have hP1 : Hd (Bs w2 (.slice Ap p1.length cp) (ints p1)) := ⟨bs_kpz hP1 K2⟩
 have hP2 : Hd (Bs w2 (.slice Bp p2.length dp) (ints p2)) := ⟨bs_kpz hP2 K2⟩
 have K2 := Hd.mk K2
 have hd := Hd.mk hd0
 have hk := Hd.mk hk0
 have hn := Hd.mk hn0
 have ht := Hd.mk ht0
 have hw2 := Hd.mk hw2
 clear K1 hd0 hk0 hn0 ht0
 go_enter Tryz.func73, Tryz.ntmps73
 go_wp2_with (first | (rewrite [← hw2.out]) | ((with_reducible refine wl_run rfl (ex_load _ 3 _ (.int .i64 d1) rfl ⟨w.heap.size, 0, none⟩ U3 rfl rfl FA.out.c0) ?_)) | ((with_reducible refine wl_run rfl (ex_load _ 3 _ (.int .i64 d2) rfl ⟨(w.heap.size + 1), 0, none⟩ U3 rfl rfl FB.out.c0) ?_)) | ((with_reducible refine wl_run rfl (ex_eql _ 3 3 (.tmp 6) (.tmp 8) rfl .i64 d1 d2 rfl rfl true hd.out) ?_)) | ((with_reducible refine wl_runG ?hw (ex_load _ 9 _ (.string ⟨k1.toArray⟩) rfl ⟨w.heap.size, 1, none⟩ U9 rfl rfl FA.out.c1) ?_); (case hw => rfl)) | ((with_reducible refine wl_runG ?hw (ex_load _ 9 _ (.string ⟨k2.toArray⟩) rfl ⟨(w.heap.size + 1), 1, none⟩ U9 rfl rfl FB.out.c1) ?_); (case hw => rfl)) | ((with_reducible refine wl_runG ?hw (ex_seql _ 9 9 (.tmp 12) (.tmp 14) rfl k1 k2 true hk.out rfl rfl) ?_); (case hw => rfl)) | ((with_reducible refine wl_runG ?hw (ex_load _ 3 _ (.int .i64 n1) rfl ⟨w.heap.size, 3, none⟩ U3 rfl rfl FA.out.c3) ?_); (case hw => rfl)) | ((with_reducible refine wl_runG ?hw (ex_load _ 3 _ (.int .i64 n2) rfl ⟨(w.heap.size + 1), 3, none⟩ U3 rfl rfl FB.out.c3) ?_); (case hw => rfl)) | ((with_reducible refine wl_runG ?hw (ex_eql _ 3 3 (.tmp 19) (.tmp 21) rfl .i64 n1 n2 rfl rfl true hn.out) ?_); (case hw => rfl)) | ((with_reducible refine wl_runG ?hw (ex_load _ 22 _ (.slice At t1.length ct) rfl ⟨w.heap.size, 2, none⟩ U22 rfl rfl FA.out.c2) ?_); (case hw => rfl)) | ((with_reducible refine wl_runG ?hw (ex_load _ 22 _ (.slice Bt t2.length dt) rfl ⟨(w.heap.size + 1), 2, none⟩ U22 rfl rfl FB.out.c2) ?_); (case hw => rfl)) | (go_at_call 95; refine (beq_at t1 t2 false ht.out hT1.out hT2.out).mono ?_; rintro e w9 ⟨rfl, rfl⟩; dsimp only))
 go_ret
 exact ⟨rfl, K2.out⟩
set_option maxHeartbeats 2000000 in
theorem sa73_4 (d1 d2 n1 n2 : Int) (k1 k2 t1 t2 p1 p2 : List UInt8) {w : World} {At Ap Bt Bp : Option Addr} {ct cp dt dp : Nat} (hT1 : Bs w (.slice At t1.length ct) (ints t1)) (hP1 : Bs w (.slice Ap p1.length cp) (ints p1)) (hT2 : Bs w (.slice Bt t2.length dt) (ints t2)) (hP2 : Bs w (.slice Bp p2.length dp) (ints p2)) (hd0 : decide (d1 = d2) = true) (hk0 : (k1 == k2) = true) (hn0 : decide (n1 = n2) = true) (ht0 : (t1 == t2) = true) (hp0 : (p1 == p2) = false) :
  Calls Tryz.prog 73 #[.agg #[.int .i64 d1, .string ⟨k1.toArray⟩, .slice At t1.length ct, .int .i64 n1, .slice Ap p1.length cp], .agg #[.int .i64 d2, .string ⟨k2.toArray⟩, .slice Bt t2.length dt, .int .i64 n2, .slice Bp p2.length dp]] w fun e w' => e = .returned (.bool false) ∧ KZ w w' := by
 have K1 : KZ w (w.alloc (.cells #[.int .i64 d1, .string ⟨k1.toArray⟩, .slice At t1.length ct, .int .i64 n1, .slice Ap p1.length cp] 24)) := (Kp.refl _ w).alloc _
 obtain ⟨w2, hw2⟩ : ∃ w2, w2 = (w.alloc (.cells #[.int .i64 d1, .string ⟨k1.toArray⟩, .slice At t1.length ct, .int .i64 n1, .slice Ap p1.length cp] 24)).alloc (.cells #[.int .i64 d2, .string ⟨k2.toArray⟩, .slice Bt t2.length dt, .int .i64 n2, .slice Bp p2.length dp] 24) := ⟨_, rfl⟩
 have K2 : KZ w w2 := hw2 ▸ K1.th ((Kp.refl _ _).alloc _)
 have FA : Hd (Fa w2 w.heap.size (.int .i64 d1) (.string ⟨k1.toArray⟩) (.slice At t1.length ct) (.int .i64 n1) (.slice Ap p1.length cp)) := ⟨hw2 ▸ (Fa.new w _ _ _ _ _).keep ((Kp.refl _ _).alloc _)⟩
 have FB : Hd (Fa w2 (w.heap.size + 1) (.int .i64 d2) (.string ⟨k2.toArray⟩) (.slice Bt t2.length dt) (.int .i64 n2) (.slice Bp p2.length dp)) := ⟨by
  have := Fa.new (w.alloc (.cells #[.int .i64 d1, .string ⟨k1.toArray⟩, .slice At t1.length ct, .int .i64 n1, .slice Ap p1.length cp] 24)) (.int .i64 d2) (.string ⟨k2.toArray⟩) (.slice Bt t2.length dt) (.int .i64 n2) (.slice Bp p2.length dp)
  rw [← hw2] at this
  have e : (w.alloc (.cells #[.int .i64 d1, .string ⟨k1.toArray⟩, .slice At t1.length ct, .int .i64 n1, .slice Ap p1.length cp] 24)).heap.size = w.heap.size + 1 := by
   show (w.heap.push _).size = _
   simp
  rw [e] at this
  exact this⟩
 have hT1 : Hd (Bs w2 (.slice At t1.length ct) (ints t1)) := ⟨bs_kpz hT1 K2⟩
 have hT2 : Hd (Bs w2 (.slice Bt t2.length dt) (ints t2)) := ⟨bs_kpz hT2 K2⟩
 have hP1 : Hd (Bs w2 (.slice Ap p1.length cp) (ints p1)) := ⟨bs_kpz hP1 K2⟩
 have hP2 : Hd (Bs w2 (.slice Bp p2.length dp) (ints p2)) := ⟨bs_kpz hP2 K2⟩
 have K2 := Hd.mk K2
 have hd := Hd.mk hd0
 have hk := Hd.mk hk0
 have hn := Hd.mk hn0
 have ht := Hd.mk ht0
 have hp := Hd.mk hp0
 have hw2 := Hd.mk hw2
 clear K1 hd0 hk0 hn0 ht0 hp0
 go_enter Tryz.func73, Tryz.ntmps73
 go_wp2_with (first | (rewrite [← hw2.out]) | ((with_reducible refine wl_run rfl (ex_load _ 3 _ (.int .i64 d1) rfl ⟨w.heap.size, 0, none⟩ U3 rfl rfl FA.out.c0) ?_)) | ((with_reducible refine wl_run rfl (ex_load _ 3 _ (.int .i64 d2) rfl ⟨(w.heap.size + 1), 0, none⟩ U3 rfl rfl FB.out.c0) ?_)) | ((with_reducible refine wl_run rfl (ex_eql _ 3 3 (.tmp 6) (.tmp 8) rfl .i64 d1 d2 rfl rfl true hd.out) ?_)) | ((with_reducible refine wl_runG ?hw (ex_load _ 9 _ (.string ⟨k1.toArray⟩) rfl ⟨w.heap.size, 1, none⟩ U9 rfl rfl FA.out.c1) ?_); (case hw => rfl)) | ((with_reducible refine wl_runG ?hw (ex_load _ 9 _ (.string ⟨k2.toArray⟩) rfl ⟨(w.heap.size + 1), 1, none⟩ U9 rfl rfl FB.out.c1) ?_); (case hw => rfl)) | ((with_reducible refine wl_runG ?hw (ex_seql _ 9 9 (.tmp 12) (.tmp 14) rfl k1 k2 true hk.out rfl rfl) ?_); (case hw => rfl)) | ((with_reducible refine wl_runG ?hw (ex_load _ 3 _ (.int .i64 n1) rfl ⟨w.heap.size, 3, none⟩ U3 rfl rfl FA.out.c3) ?_); (case hw => rfl)) | ((with_reducible refine wl_runG ?hw (ex_load _ 3 _ (.int .i64 n2) rfl ⟨(w.heap.size + 1), 3, none⟩ U3 rfl rfl FB.out.c3) ?_); (case hw => rfl)) | ((with_reducible refine wl_runG ?hw (ex_eql _ 3 3 (.tmp 19) (.tmp 21) rfl .i64 n1 n2 rfl rfl true hn.out) ?_); (case hw => rfl)) | ((with_reducible refine wl_runG ?hw (ex_load _ 22 _ (.slice At t1.length ct) rfl ⟨w.heap.size, 2, none⟩ U22 rfl rfl FA.out.c2) ?_); (case hw => rfl)) | ((with_reducible refine wl_runG ?hw (ex_load _ 22 _ (.slice Bt t2.length dt) rfl ⟨(w.heap.size + 1), 2, none⟩ U22 rfl rfl FB.out.c2) ?_); (case hw => rfl)) | (go_at_call 95; refine (beq_at t1 t2 true ht.out hT1.out hT2.out).mono ?_; rintro e w9 ⟨rfl, rfl⟩; dsimp only) | ((with_reducible refine wl_runG ?hw (ex_load _ 22 _ (.slice Ap p1.length cp) rfl ⟨w.heap.size, 4, none⟩ U22 rfl rfl FA.out.c4) ?_); (case hw => rfl)) | ((with_reducible refine wl_runG ?hw (ex_load _ 22 _ (.slice Bp p2.length dp) rfl ⟨(w.heap.size + 1), 4, none⟩ U22 rfl rfl FB.out.c4) ?_); (case hw => rfl)) | (go_at_call 95; refine (beq_at p1 p2 false hp.out hP1.out hP2.out).mono ?_; rintro e w9 ⟨rfl, rfl⟩; dsimp only))
 go_ret
 exact ⟨rfl, K2.out⟩
set_option maxHeartbeats 2000000 in
theorem sa73_5 (d1 d2 n1 n2 : Int) (k1 k2 t1 t2 p1 p2 : List UInt8) {w : World} {At Ap Bt Bp : Option Addr} {ct cp dt dp : Nat} (hT1 : Bs w (.slice At t1.length ct) (ints t1)) (hP1 : Bs w (.slice Ap p1.length cp) (ints p1)) (hT2 : Bs w (.slice Bt t2.length dt) (ints t2)) (hP2 : Bs w (.slice Bp p2.length dp) (ints p2)) (hd0 : decide (d1 = d2) = true) (hk0 : (k1 == k2) = true) (hn0 : decide (n1 = n2) = true) (ht0 : (t1 == t2) = true) (hp0 : (p1 == p2) = true) :
  Calls Tryz.prog 73 #[.agg #[.int .i64 d1, .string ⟨k1.toArray⟩, .slice At t1.length ct, .int .i64 n1, .slice Ap p1.length cp], .agg #[.int .i64 d2, .string ⟨k2.toArray⟩, .slice Bt t2.length dt, .int .i64 n2, .slice Bp p2.length dp]] w fun e w' => e = .returned (.bool true) ∧ KZ w w' := by
 have K1 : KZ w (w.alloc (.cells #[.int .i64 d1, .string ⟨k1.toArray⟩, .slice At t1.length ct, .int .i64 n1, .slice Ap p1.length cp] 24)) := (Kp.refl _ w).alloc _
 obtain ⟨w2, hw2⟩ : ∃ w2, w2 = (w.alloc (.cells #[.int .i64 d1, .string ⟨k1.toArray⟩, .slice At t1.length ct, .int .i64 n1, .slice Ap p1.length cp] 24)).alloc (.cells #[.int .i64 d2, .string ⟨k2.toArray⟩, .slice Bt t2.length dt, .int .i64 n2, .slice Bp p2.length dp] 24) := ⟨_, rfl⟩
 have K2 : KZ w w2 := hw2 ▸ K1.th ((Kp.refl _ _).alloc _)
 have FA : Hd (Fa w2 w.heap.size (.int .i64 d1) (.string ⟨k1.toArray⟩) (.slice At t1.length ct) (.int .i64 n1) (.slice Ap p1.length cp)) := ⟨hw2 ▸ (Fa.new w _ _ _ _ _).keep ((Kp.refl _ _).alloc _)⟩
 have FB : Hd (Fa w2 (w.heap.size + 1) (.int .i64 d2) (.string ⟨k2.toArray⟩) (.slice Bt t2.length dt) (.int .i64 n2) (.slice Bp p2.length dp)) := ⟨by
  have := Fa.new (w.alloc (.cells #[.int .i64 d1, .string ⟨k1.toArray⟩, .slice At t1.length ct, .int .i64 n1, .slice Ap p1.length cp] 24)) (.int .i64 d2) (.string ⟨k2.toArray⟩) (.slice Bt t2.length dt) (.int .i64 n2) (.slice Bp p2.length dp)
  rw [← hw2] at this
  have e : (w.alloc (.cells #[.int .i64 d1, .string ⟨k1.toArray⟩, .slice At t1.length ct, .int .i64 n1, .slice Ap p1.length cp] 24)).heap.size = w.heap.size + 1 := by
   show (w.heap.push _).size = _
   simp
  rw [e] at this
  exact this⟩
 have hT1 : Hd (Bs w2 (.slice At t1.length ct) (ints t1)) := ⟨bs_kpz hT1 K2⟩
 have hT2 : Hd (Bs w2 (.slice Bt t2.length dt) (ints t2)) := ⟨bs_kpz hT2 K2⟩
 have hP1 : Hd (Bs w2 (.slice Ap p1.length cp) (ints p1)) := ⟨bs_kpz hP1 K2⟩
 have hP2 : Hd (Bs w2 (.slice Bp p2.length dp) (ints p2)) := ⟨bs_kpz hP2 K2⟩
 have K2 := Hd.mk K2
 have hd := Hd.mk hd0
 have hk := Hd.mk hk0
 have hn := Hd.mk hn0
 have ht := Hd.mk ht0
 have hp := Hd.mk hp0
 have hw2 := Hd.mk hw2
 clear K1 hd0 hk0 hn0 ht0 hp0
 go_enter Tryz.func73, Tryz.ntmps73
 go_wp2_with (first | (rewrite [← hw2.out]) | ((with_reducible refine wl_run rfl (ex_load _ 3 _ (.int .i64 d1) rfl ⟨w.heap.size, 0, none⟩ U3 rfl rfl FA.out.c0) ?_)) | ((with_reducible refine wl_run rfl (ex_load _ 3 _ (.int .i64 d2) rfl ⟨(w.heap.size + 1), 0, none⟩ U3 rfl rfl FB.out.c0) ?_)) | ((with_reducible refine wl_run rfl (ex_eql _ 3 3 (.tmp 6) (.tmp 8) rfl .i64 d1 d2 rfl rfl true hd.out) ?_)) | ((with_reducible refine wl_runG ?hw (ex_load _ 9 _ (.string ⟨k1.toArray⟩) rfl ⟨w.heap.size, 1, none⟩ U9 rfl rfl FA.out.c1) ?_); (case hw => rfl)) | ((with_reducible refine wl_runG ?hw (ex_load _ 9 _ (.string ⟨k2.toArray⟩) rfl ⟨(w.heap.size + 1), 1, none⟩ U9 rfl rfl FB.out.c1) ?_); (case hw => rfl)) | ((with_reducible refine wl_runG ?hw (ex_seql _ 9 9 (.tmp 12) (.tmp 14) rfl k1 k2 true hk.out rfl rfl) ?_); (case hw => rfl)) | ((with_reducible refine wl_runG ?hw (ex_load _ 3 _ (.int .i64 n1) rfl ⟨w.heap.size, 3, none⟩ U3 rfl rfl FA.out.c3) ?_); (case hw => rfl)) | ((with_reducible refine wl_runG ?hw (ex_load _ 3 _ (.int .i64 n2) rfl ⟨(w.heap.size + 1), 3, none⟩ U3 rfl rfl FB.out.c3) ?_); (case hw => rfl)) | ((with_reducible refine wl_runG ?hw (ex_eql _ 3 3 (.tmp 19) (.tmp 21) rfl .i64 n1 n2 rfl rfl true hn.out) ?_); (case hw => rfl)) | ((with_reducible refine wl_runG ?hw (ex_load _ 22 _ (.slice At t1.length ct) rfl ⟨w.heap.size, 2, none⟩ U22 rfl rfl FA.out.c2) ?_); (case hw => rfl)) | ((with_reducible refine wl_runG ?hw (ex_load _ 22 _ (.slice Bt t2.length dt) rfl ⟨(w.heap.size + 1), 2, none⟩ U22 rfl rfl FB.out.c2) ?_); (case hw => rfl)) | (go_at_call 95; refine (beq_at t1 t2 true ht.out hT1.out hT2.out).mono ?_; rintro e w9 ⟨rfl, rfl⟩; dsimp only) | ((with_reducible refine wl_runG ?hw (ex_load _ 22 _ (.slice Ap p1.length cp) rfl ⟨w.heap.size, 4, none⟩ U22 rfl rfl FA.out.c4) ?_); (case hw => rfl)) | ((with_reducible refine wl_runG ?hw (ex_load _ 22 _ (.slice Bp p2.length dp) rfl ⟨(w.heap.size + 1), 4, none⟩ U22 rfl rfl FB.out.c4) ?_); (case hw => rfl)) | (go_at_call 95; refine (beq_at p1 p2 true hp.out hP1.out hP2.out).mono ?_; rintro e w9 ⟨rfl, rfl⟩; dsimp only))
 go_ret
 exact ⟨rfl, K2.out⟩
theorem sameact13_at (a b : A) {w : World} {At Ap Bt Bp : Option Addr} {ct cp dt dp : Nat} (hT1 : Bs w (.slice At a.t.length ct) (ints a.t)) (hP1 : Bs w (.slice Ap a.p.length cp) (ints a.p)) (hT2 : Bs w (.slice Bt b.t.length dt) (ints b.t)) (hP2 : Bs w (.slice Bp b.p.length dp) (ints b.p)) :
  Calls Tryz.prog 13 #[.agg #[.int .i64 a.d, .string ⟨a.k.toArray⟩, .slice At a.t.length ct, .int .i64 a.n, .slice Ap a.p.length cp], .agg #[.int .i64 b.d, .string ⟨b.k.toArray⟩, .slice Bt b.t.length dt, .int .i64 b.n, .slice Bp b.p.length dp]] w fun e w' => BoR (a = b) w w' e := by
 obtain ⟨d1, k1, t1, n1, p1⟩ := a
 obtain ⟨d2, k2, t2, n2, p2⟩ := b
 simp only at *
 cases hd : decide (d1 = d2)
 ·exact (sa13_0 d1 d2 n1 n2 k1 k2 t1 t2 p1 p2 hT1 hP1 hT2 hP2 hd).mono (fun e w' h => ⟨⟨false, h.1, ⟨fun h => (by cases h), fun h => (by injection h with e1 e2 e3 e4 e5; subst e1; subst e2; subst e3; subst e4; subst e5; simp at hd)⟩⟩, h.2⟩)
 ·skip
  cases hk : (k1 == k2)
  ·exact (sa13_1 d1 d2 n1 n2 k1 k2 t1 t2 p1 p2 hT1 hP1 hT2 hP2 hd hk).mono (fun e w' h => ⟨⟨false, h.1, ⟨fun h => (by cases h), fun h => (by injection h with e1 e2 e3 e4 e5; subst e1; subst e2; subst e3; subst e4; subst e5; simp at hk)⟩⟩, h.2⟩)
  ·skip
   cases ht : (t1 == t2)
   ·exact (sa13_2 d1 d2 n1 n2 k1 k2 t1 t2 p1 p2 hT1 hP1 hT2 hP2 hd hk ht).mono (fun e w' h => ⟨⟨false, h.1, ⟨fun h => (by cases h), fun h => (by injection h with e1 e2 e3 e4 e5; subst e1; subst e2; subst e3; subst e4; subst e5; simp at ht)⟩⟩, h.2⟩)
   ·skip
    cases hn : decide (n1 = n2)
    ·exact (sa13_3 d1 d2 n1 n2 k1 k2 t1 t2 p1 p2 hT1 hP1 hT2 hP2 hd hk ht hn).mono (fun e w' h => ⟨⟨false, h.1, ⟨fun h => (by cases h), fun h => (by injection h with e1 e2 e3 e4 e5; subst e1; subst e2; subst e3; subst e4; subst e5; simp at hn)⟩⟩, h.2⟩)
    ·skip
     cases hp : (p1 == p2)
     ·exact (sa13_4 d1 d2 n1 n2 k1 k2 t1 t2 p1 p2 hT1 hP1 hT2 hP2 hd hk ht hn hp).mono (fun e w' h => ⟨⟨false, h.1, ⟨fun h => (by cases h), fun h => (by injection h with e1 e2 e3 e4 e5; subst e1; subst e2; subst e3; subst e4; subst e5; simp at hp)⟩⟩, h.2⟩)
     ·skip
      exact (sa13_5 d1 d2 n1 n2 k1 k2 t1 t2 p1 p2 hT1 hP1 hT2 hP2 hd hk ht hn hp).mono (fun e w' h => ⟨⟨true, h.1, ⟨fun _ => (by rw [of_decide_eq_true hd, of_decide_eq_true hn, eq_of_beq hk, eq_of_beq ht, eq_of_beq hp]), fun _ => rfl⟩⟩, h.2⟩)
theorem sameact73_at (a b : A) {w : World} {At Ap Bt Bp : Option Addr} {ct cp dt dp : Nat} (hT1 : Bs w (.slice At a.t.length ct) (ints a.t)) (hP1 : Bs w (.slice Ap a.p.length cp) (ints a.p)) (hT2 : Bs w (.slice Bt b.t.length dt) (ints b.t)) (hP2 : Bs w (.slice Bp b.p.length dp) (ints b.p)) :
  Calls Tryz.prog 73 #[.agg #[.int .i64 a.d, .string ⟨a.k.toArray⟩, .slice At a.t.length ct, .int .i64 a.n, .slice Ap a.p.length cp], .agg #[.int .i64 b.d, .string ⟨b.k.toArray⟩, .slice Bt b.t.length dt, .int .i64 b.n, .slice Bp b.p.length dp]] w fun e w' => BoR (a = b) w w' e := by
 obtain ⟨d1, k1, t1, n1, p1⟩ := a
 obtain ⟨d2, k2, t2, n2, p2⟩ := b
 simp only at *
 cases hd : decide (d1 = d2)
 ·exact (sa73_0 d1 d2 n1 n2 k1 k2 t1 t2 p1 p2 hT1 hP1 hT2 hP2 hd).mono (fun e w' h => ⟨⟨false, h.1, ⟨fun h => (by cases h), fun h => (by injection h with e1 e2 e3 e4 e5; subst e1; subst e2; subst e3; subst e4; subst e5; simp at hd)⟩⟩, h.2⟩)
 ·skip
  cases hk : (k1 == k2)
  ·exact (sa73_1 d1 d2 n1 n2 k1 k2 t1 t2 p1 p2 hT1 hP1 hT2 hP2 hd hk).mono (fun e w' h => ⟨⟨false, h.1, ⟨fun h => (by cases h), fun h => (by injection h with e1 e2 e3 e4 e5; subst e1; subst e2; subst e3; subst e4; subst e5; simp at hk)⟩⟩, h.2⟩)
  ·skip
   cases hn : decide (n1 = n2)
   ·exact (sa73_2 d1 d2 n1 n2 k1 k2 t1 t2 p1 p2 hT1 hP1 hT2 hP2 hd hk hn).mono (fun e w' h => ⟨⟨false, h.1, ⟨fun h => (by cases h), fun h => (by injection h with e1 e2 e3 e4 e5; subst e1; subst e2; subst e3; subst e4; subst e5; simp at hn)⟩⟩, h.2⟩)
   ·skip
    cases ht : (t1 == t2)
    ·exact (sa73_3 d1 d2 n1 n2 k1 k2 t1 t2 p1 p2 hT1 hP1 hT2 hP2 hd hk hn ht).mono (fun e w' h => ⟨⟨false, h.1, ⟨fun h => (by cases h), fun h => (by injection h with e1 e2 e3 e4 e5; subst e1; subst e2; subst e3; subst e4; subst e5; simp at ht)⟩⟩, h.2⟩)
    ·skip
     cases hp : (p1 == p2)
     ·exact (sa73_4 d1 d2 n1 n2 k1 k2 t1 t2 p1 p2 hT1 hP1 hT2 hP2 hd hk hn ht hp).mono (fun e w' h => ⟨⟨false, h.1, ⟨fun h => (by cases h), fun h => (by injection h with e1 e2 e3 e4 e5; subst e1; subst e2; subst e3; subst e4; subst e5; simp at hp)⟩⟩, h.2⟩)
     ·skip
      exact (sa73_5 d1 d2 n1 n2 k1 k2 t1 t2 p1 p2 hT1 hP1 hT2 hP2 hd hk hn ht hp).mono (fun e w' h => ⟨⟨true, h.1, ⟨fun _ => (by rw [of_decide_eq_true hd, of_decide_eq_true hn, eq_of_beq hk, eq_of_beq ht, eq_of_beq hp]), fun _ => rfl⟩⟩, h.2⟩)
end Go.Proofs.YtkcechpaeilaeaaGreatDoor
