/- Joined out of: R17. -/
import Derived.Test.YtkcechpaeilaeaaGreatDoorK24
set_option linter.unusedVariables false
set_option linter.unusedSimpArgs false
namespace Go.Proofs.YtkcechpaeilaeaaGreatDoor
open Go.RowKit
set_option maxRecDepth 100000
set_option maxHeartbeats 8000000 in
theorem read_head0 {b : Nat} {w : World} {s : Sc} {F S X : Option Addr} {cF cS cA : Nat} {cs : List Value} (hs : scOk s) (hR : Rz b w s (.slice F s.fl.length cF) (.slice S s.ss.length cS) (.slice X s.ac.length cA) cs) (l : List UInt8) (hl : l.length < 70000) :
  Calls Tryz.prog 77 #[.agg #[.int .i64 s.pages, .int .i64 s.cache, .slice F s.fl.length cF, .slice S s.ss.length cS, .int .i64 s.cap, .slice X s.ac.length cA], .int .i64 0, .string ⟨l.toArray⟩] w fun e w' => ReR b 0 s l w w' e := by
 obtain ⟨WD, hWD⟩ : ∃ x, Hd (wd l = x) := ⟨_, ⟨rfl⟩⟩
 obtain ⟨RS, hRS⟩ : ∃ x, Hd (rs l = x) := ⟨_, ⟨rfl⟩⟩
 obtain ⟨N, hN⟩ : ∃ x, Hd (dig RS = x) := ⟨_, ⟨rfl⟩⟩
 have hc := Hd.mk (fun u => rcut_to hWD.out hRS.out hl u)
 have hd := Hd.mk (fun u => dig_to hN.out (by rw [← hRS.out]; exact Nat.lt_of_le_of_lt (rs_length _) hl) u)
 have hy : Hd (WD = [112, 97, 103, 101, 115] → 0 ≤ N → headOk ⟨N, s.cache, s.fl, s.ss, s.cap, s.ac⟩ → Step 0 s l ⟨N, s.cache, s.fl, s.ss, s.cap, s.ac⟩) := ⟨fun h1 h2 h3 => by
  have e : N = dig (rs l) := by rw [hRS.out, hN.out]
  subst e
  exact step_head_y (k := 0) (by omega) hs (hWD.out.trans h1) h2 h3⟩
 have hn : Hd (∀ s1, Step 0 s l s1 → WD = [112, 97, 103, 101, 115] ∧ 0 ≤ N ∧ headOk ⟨N, s.cache, s.fl, s.ss, s.cap, s.ac⟩) := ⟨fun s1 h1 => by
  have e : N = dig (rs l) := by rw [hRS.out, hN.out]
  obtain ⟨g1, g2, g3⟩ := step_head_n (k := 0) (by omega) h1
  rw [hWD.out] at g1
  subst e
  exact ⟨g1, g2, g3⟩⟩
 have hh := Hd.mk (fun (W : World) (hW : KZ w W) => rhead_at (w := W) ⟨N, s.cache, s.fl, s.ss, s.cap, s.ac⟩ (small_setK hs 0 N) (AF := F) (AS := S) (AA := X) (cF := cF) (cS := cS) (cA := cA) ((hR.keep hW).head N s.cache s.cap).scr2)
 replace hR := Hd.mk hR
 clear hs hl
 go_enter Tryz.func77, Tryz.ntmps77
 go_wp2_with fail
 refine (hc.out _).mono ?_
 rintro e w1 ⟨⟨b0, rfl⟩, k1⟩
 have X1 := Hd.mk ((Rx.start w (r6 s F cF S cS X cA)).keep k1)
 clear k1
 go_wp2_with fail
 refine (hd.out w1).mono ?_
 rintro e w2 ⟨rfl, rfl⟩
 have X2 := Hd.mk (X1.out.keep ((Kp.refl _ w1).alloc (.cells #[.string ⟨#[112, 97, 103, 101, 115]⟩, .string ⟨#[99, 97, 99, 104, 101]⟩, .string ⟨#[99, 97, 112]⟩] 9)))
 clear X1
 by_cases h1 : WD = [112, 97, 103, 101, 115]
 rotate_left
 ·have e1 : Hd ((WD != [112, 97, 103, 101, 115]) = true) := ⟨by simpa using h1⟩
  have hr : Hd (Rx w.heap.size w (w1.alloc (.cells #[.string ⟨#[112, 97, 103, 101, 115]⟩, .string ⟨#[99, 97, 99, 104, 101]⟩, .string ⟨#[99, 97, 112]⟩] 9)) (r6 s F cF S cS X cA) Z6 ∧ (w1.alloc (.cells #[.string ⟨#[112, 97, 103, 101, 115]⟩, .string ⟨#[99, 97, 99, 104, 101]⟩, .string ⟨#[99, 97, 112]⟩] 9)).rangeAt w.heap.size 0 (r6 s F cF S cS X cA)) := ⟨X2.out, X2.out.bx.range 0 6⟩
  replace h1 := Hd.mk h1
  go_wp2_with (first | (simp only [Bool.false_eq_true, if_false]) | ((with_reducible refine wl_run rfl (ex_sneq _ 9 9 (.tmp 28) (.tmp 32) rfl WD [112, 97, 103, 101, 115] true e1.out rfl rfl) ?_)) | ((refine wl_load_mid rfl 53 (.tmp 3) rfl w.heap.size 0 rfl (r6 s F cF S cS X cA) hr.out.2 Tryz.underlying53 rfl (by kernel_rfl) ?_)) | (refine wl_store_mid rfl 53 (.tmp 6) (.tmp 38) rfl (w.heap.size + 1) 0 53 Z6 (r6 s F cF S cS X cA) rfl rfl hr.out.1.ou (Nat.le_refl 6) (by kernel_rfl) six_one ?_; intro w3 hb hk hs; replace hb := Hd.mk hb; replace hk := Hd.mk hk; clear hs))
  obtain ⟨g1, g2⟩ := X2.out.give rfl hb.out hk.out rfl
  refine bodyPost_ret (results_2s rfl _ _ (w.heap.size + 1) (r6 s F cF S cS X cA) _ rfl rfl g1 rfl) rfl ?_
  exact ⟨⟨s, F, S, X, cF, cS, cA, false, rfl, fun h => (by cases h), fun _ ⟨s1, h2⟩ => h1.out (hn.out s1 h2).1⟩, g2⟩
 have e1 : Hd ((WD != [112, 97, 103, 101, 115]) = false) := ⟨by simpa using h1⟩
 replace h1 := Hd.mk h1
 by_cases h2 : 0 ≤ N
 rotate_left
 ·have e2 : Hd (decide (N < 0) = true) := ⟨decide_eq_true (by omega)⟩
  have hr : Hd (Rx w.heap.size w (w1.alloc (.cells #[.string ⟨#[112, 97, 103, 101, 115]⟩, .string ⟨#[99, 97, 99, 104, 101]⟩, .string ⟨#[99, 97, 112]⟩] 9)) (r6 s F cF S cS X cA) Z6 ∧ (w1.alloc (.cells #[.string ⟨#[112, 97, 103, 101, 115]⟩, .string ⟨#[99, 97, 99, 104, 101]⟩, .string ⟨#[99, 97, 112]⟩] 9)).rangeAt w.heap.size 0 (r6 s F cF S cS X cA)) := ⟨X2.out, X2.out.bx.range 0 6⟩
  replace h2 := Hd.mk h2
  go_wp2_with (first | (simp only [Bool.false_eq_true, if_false]) | ((with_reducible refine wl_run rfl (ex_sneq _ 9 9 (.tmp 28) (.tmp 32) rfl WD [112, 97, 103, 101, 115] false e1.out rfl rfl) ?_)) | ((refine wlG (ex_lss _ 3 3 (.tmp 35) (.const (.int .i64 0)) rfl .i64 N 0 rfl rfl true e2.out) ?_)) | ((refine wl_load_mid rfl 53 (.tmp 3) rfl w.heap.size 0 rfl (r6 s F cF S cS X cA) hr.out.2 Tryz.underlying53 rfl (by kernel_rfl) ?_)) | (refine wl_store_mid rfl 53 (.tmp 6) (.tmp 38) rfl (w.heap.size + 1) 0 53 Z6 (r6 s F cF S cS X cA) rfl rfl hr.out.1.ou (Nat.le_refl 6) (by kernel_rfl) six_one ?_; intro w3 hb hk hs; replace hb := Hd.mk hb; replace hk := Hd.mk hk; clear hs))
  obtain ⟨g1, g2⟩ := X2.out.give rfl hb.out hk.out rfl
  refine bodyPost_ret (results_2s rfl _ _ (w.heap.size + 1) (r6 s F cF S cS X cA) _ rfl rfl g1 rfl) rfl ?_
  exact ⟨⟨s, F, S, X, cF, cS, cA, false, rfl, fun h => (by cases h), fun _ ⟨s1, h3⟩ => (by have := (hn.out s1 h3).2.1; have := h2.out; omega)⟩, g2⟩
 have e2 : Hd (decide (N < 0) = false) := ⟨decide_eq_false (by omega)⟩
 replace h2 := Hd.mk h2
 have d1 : (w1.alloc (.cells #[.string ⟨#[112, 97, 103, 101, 115]⟩, .string ⟨#[99, 97, 99, 104, 101]⟩, .string ⟨#[99, 97, 112]⟩] 9)).cell? ⟨w.heap.size, 0, none⟩ = some (.int .i64 s.pages) := X2.out.bx.cell 0
 have f1 : (w1.alloc (.cells #[.string ⟨#[112, 97, 103, 101, 115]⟩, .string ⟨#[99, 97, 99, 104, 101]⟩, .string ⟨#[99, 97, 112]⟩] 9)).frozen? ⟨w.heap.size, 0, none⟩ = false := X2.out.bx.free 0
 have X3 : Hd (Rx w.heap.size w (((w1.alloc (.cells #[.string ⟨#[112, 97, 103, 101, 115]⟩, .string ⟨#[99, 97, 99, 104, 101]⟩, .string ⟨#[99, 97, 112]⟩] 9)).setCell ⟨w.heap.size, 0, none⟩ (.int .i64 N)).drew) [.int .i64 N, .int .i64 s.cache, .slice F s.fl.length cF, .slice S s.ss.length cS, .int .i64 s.cap, .slice X s.ac.length cA] Z6) := ⟨(X2.out.put 0 (.int .i64 N)).keep (Kp.refl _ _).drew⟩
 clear X2
 go_wp2_with (first | (simp only [Bool.false_eq_true, if_false]) | ((with_reducible refine wl_run rfl (ex_sneq _ 9 9 (.tmp 28) (.tmp 32) rfl WD [112, 97, 103, 101, 115] false e1.out rfl rfl) ?_)) | ((refine wlG (ex_lss _ 3 3 (.tmp 35) (.const (.int .i64 0)) rfl .i64 N 0 rfl rfl false e2.out) ?_)))
 clear d1 f1
 have hS : Hd ((fun W : World => W.rangeAt w.heap.size 0 [.int .i64 N, .int .i64 s.cache, .slice F s.fl.length cF, .slice S s.ss.length cS, .int .i64 s.cap, .slice X s.ac.length cA]) (((w1.alloc (.cells #[.string ⟨#[112, 97, 103, 101, 115]⟩, .string ⟨#[99, 97, 99, 104, 101]⟩, .string ⟨#[99, 97, 112]⟩] 9)).setCell ⟨w.heap.size, 0, none⟩ (.int .i64 N)).drew)) := ⟨X3.out.bx.range 0 6⟩
 refine rn_begin (fun W : World => W.rangeAt w.heap.size 0 [.int .i64 N, .int .i64 s.cache, .slice F s.fl.length cF, .slice S s.ss.length cS, .int .i64 s.cap, .slice X s.ac.length cA]) (List.range 3) (by kernel_rfl) ?_
 refine rnT [3, 4] 0 52 (.agg ([.int .i64 N, .int .i64 s.cache, .slice F s.fl.length cF, .slice S s.ss.length cS, .int .i64 s.cap, .slice X s.ac.length cA] : List Value).toArray) (fun W hW => ex_load_mid W 53 _ rfl w.heap.size 0 rfl _ hW Tryz.underlying53 rfl (by kernel_rfl)) hS.out ?_
 refine rnT [2, 3, 4] 1 53 (.agg ([.int .i64 N, .int .i64 s.cache, .slice F s.fl.length cF, .slice S s.ss.length cS, .int .i64 s.cap, .slice X s.ac.length cA] : List Value).toArray) (fun W hW => ex_load_mid W 53 _ rfl w.heap.size 0 rfl _ hW Tryz.underlying53 rfl (by kernel_rfl)) hS.out ?_
 simp only [Act.put, uA, uB, uC]
 refine rn_one (i := 2) (dst := some 54) rfl (by kernel_rfl) rfl rfl (fun K hK => ?_)
 refine ow_call 70 _ _ rfl Tryz.func70 (by kernel_rfl) (by kernel_rfl) [.agg ([.int .i64 N, .int .i64 s.cache, .slice F s.fl.length cF, .slice S s.ss.length cS, .int .i64 s.cap, .slice X s.ac.length cA] : List Value).toArray] rfl (hh.out _ X3.out.kp) ?_
 rintro e w5 ⟨⟨bq, rfl, hbq⟩, k5⟩
 have X5 := Hd.mk (X3.out.keep k5)
 have hS5 : Hd ((fun W : World => W.rangeAt w.heap.size 0 [.int .i64 N, .int .i64 s.cache, .slice F s.fl.length cF, .slice S s.ss.length cS, .int .i64 s.cap, .slice X s.ac.length cA]) w5) := ⟨X5.out.bx.range 0 6⟩
 refine ⟨_, rfl, hK _ _ (fun _ => hS5.out) ?_⟩
 clear hK K hS X3
 replace hbq := Hd.mk hbq
 simp only [Act.put, uA, uB, uC]
 refine rn_one (i := 3) (dst := none) rfl (by kernel_rfl) rfl rfl (fun K hK => ?_)
 refine ow_store_mid 53 _ _ rfl (w.heap.size + 1) 0 53 Z6 [.int .i64 N, .int .i64 s.cache, .slice F s.fl.length cF, .slice S s.ss.length cS, .int .i64 s.cap, .slice X s.ac.length cA] rfl rfl X5.out.ou (Nat.le_refl 6) (by kernel_rfl) six_one ?_
 intro w6 hb6 hk6 _
 refine hK _ _ (fun h => (by cases h)) ?_
 clear hK K
 simp only [Act.put, uA, uB, uC]
 obtain ⟨g1, g2⟩ := X5.out.give rfl hb6 hk6 rfl
 replace g1 := Hd.mk g1
 replace g2 := Hd.mk g2
 clear hb6 hk6 k5
 refine rn_one (i := 4) (dst := some 7) rfl (by kernel_rfl) rfl rfl (fun K hK => ?_)
 refine ow_run (ex_assign _ _ (.bool bq) rfl rfl) ?_
 refine hK _ _ (fun h => (by cases h)) ?_
 clear hK K
 simp only [Act.put, uA, uB, uC]
 refine rn_done (by kernel_rfl) ?_ _
 go_wp2_with fail
 refine bodyPost_ret (results_2s rfl _ _ (w.heap.size + 1) [.int .i64 N, .int .i64 s.cache, .slice F s.fl.length cF, .slice S s.ss.length cS, .int .i64 s.cap, .slice X s.ac.length cA] _ rfl rfl g1.out rfl) rfl ?_
 refine ⟨⟨⟨N, s.cache, s.fl, s.ss, s.cap, s.ac⟩, F, S, X, cF, cS, cA, bq, rfl, fun h => ?_, fun h ⟨s1, h3⟩ => ?_⟩, g2.out⟩
 ·exact ⟨hy.out h1.out h2.out (hbq.out.1 h), cs, (hR.out.keep g2.out).head N s.cache s.cap⟩
 ·have := hbq.out.2 (hn.out s1 h3).2.2
  rw [h] at this
  cases this
set_option maxHeartbeats 8000000 in
theorem read_head1 {b : Nat} {w : World} {s : Sc} {F S X : Option Addr} {cF cS cA : Nat} {cs : List Value} (hs : scOk s) (hR : Rz b w s (.slice F s.fl.length cF) (.slice S s.ss.length cS) (.slice X s.ac.length cA) cs) (l : List UInt8) (hl : l.length < 70000) :
  Calls Tryz.prog 77 #[.agg #[.int .i64 s.pages, .int .i64 s.cache, .slice F s.fl.length cF, .slice S s.ss.length cS, .int .i64 s.cap, .slice X s.ac.length cA], .int .i64 1, .string ⟨l.toArray⟩] w fun e w' => ReR b 1 s l w w' e := by
 obtain ⟨WD, hWD⟩ : ∃ x, Hd (wd l = x) := ⟨_, ⟨rfl⟩⟩
 obtain ⟨RS, hRS⟩ : ∃ x, Hd (rs l = x) := ⟨_, ⟨rfl⟩⟩
 obtain ⟨N, hN⟩ : ∃ x, Hd (dig RS = x) := ⟨_, ⟨rfl⟩⟩
 have hc := Hd.mk (fun u => rcut_to hWD.out hRS.out hl u)
 have hd := Hd.mk (fun u => dig_to hN.out (by rw [← hRS.out]; exact Nat.lt_of_le_of_lt (rs_length _) hl) u)
 have hy : Hd (WD = [99, 97, 99, 104, 101] → 0 ≤ N → headOk ⟨s.pages, N, s.fl, s.ss, s.cap, s.ac⟩ → Step 1 s l ⟨s.pages, N, s.fl, s.ss, s.cap, s.ac⟩) := ⟨fun h1 h2 h3 => by
  have e : N = dig (rs l) := by rw [hRS.out, hN.out]
  subst e
  exact step_head_y (k := 1) (by omega) hs (hWD.out.trans h1) h2 h3⟩
 have hn : Hd (∀ s1, Step 1 s l s1 → WD = [99, 97, 99, 104, 101] ∧ 0 ≤ N ∧ headOk ⟨s.pages, N, s.fl, s.ss, s.cap, s.ac⟩) := ⟨fun s1 h1 => by
  have e : N = dig (rs l) := by rw [hRS.out, hN.out]
  obtain ⟨g1, g2, g3⟩ := step_head_n (k := 1) (by omega) h1
  rw [hWD.out] at g1
  subst e
  exact ⟨g1, g2, g3⟩⟩
 have hh := Hd.mk (fun (W : World) (hW : KZ w W) => rhead_at (w := W) ⟨s.pages, N, s.fl, s.ss, s.cap, s.ac⟩ (small_setK hs 1 N) (AF := F) (AS := S) (AA := X) (cF := cF) (cS := cS) (cA := cA) ((hR.keep hW).head s.pages N s.cap).scr2)
 replace hR := Hd.mk hR
 clear hs hl
 go_enter Tryz.func77, Tryz.ntmps77
 go_wp2_with fail
 refine (hc.out _).mono ?_
 rintro e w1 ⟨⟨b0, rfl⟩, k1⟩
 have X1 := Hd.mk ((Rx.start w (r6 s F cF S cS X cA)).keep k1)
 clear k1
 go_wp2_with fail
 refine (hd.out w1).mono ?_
 rintro e w2 ⟨rfl, rfl⟩
 have X2 := Hd.mk (X1.out.keep ((Kp.refl _ w1).alloc (.cells #[.string ⟨#[112, 97, 103, 101, 115]⟩, .string ⟨#[99, 97, 99, 104, 101]⟩, .string ⟨#[99, 97, 112]⟩] 9)))
 clear X1
 by_cases h1 : WD = [99, 97, 99, 104, 101]
 rotate_left
 ·have e1 : Hd ((WD != [99, 97, 99, 104, 101]) = true) := ⟨by simpa using h1⟩
  have hr : Hd (Rx w.heap.size w (w1.alloc (.cells #[.string ⟨#[112, 97, 103, 101, 115]⟩, .string ⟨#[99, 97, 99, 104, 101]⟩, .string ⟨#[99, 97, 112]⟩] 9)) (r6 s F cF S cS X cA) Z6 ∧ (w1.alloc (.cells #[.string ⟨#[112, 97, 103, 101, 115]⟩, .string ⟨#[99, 97, 99, 104, 101]⟩, .string ⟨#[99, 97, 112]⟩] 9)).rangeAt w.heap.size 0 (r6 s F cF S cS X cA)) := ⟨X2.out, X2.out.bx.range 0 6⟩
  replace h1 := Hd.mk h1
  go_wp2_with (first | (simp only [Bool.false_eq_true, if_false]) | ((with_reducible refine wl_run rfl (ex_sneq _ 9 9 (.tmp 28) (.tmp 32) rfl WD [99, 97, 99, 104, 101] true e1.out rfl rfl) ?_)) | ((refine wl_load_mid rfl 53 (.tmp 3) rfl w.heap.size 0 rfl (r6 s F cF S cS X cA) hr.out.2 Tryz.underlying53 rfl (by kernel_rfl) ?_)) | (refine wl_store_mid rfl 53 (.tmp 6) (.tmp 38) rfl (w.heap.size + 1) 0 53 Z6 (r6 s F cF S cS X cA) rfl rfl hr.out.1.ou (Nat.le_refl 6) (by kernel_rfl) six_one ?_; intro w3 hb hk hs; replace hb := Hd.mk hb; replace hk := Hd.mk hk; clear hs))
  obtain ⟨g1, g2⟩ := X2.out.give rfl hb.out hk.out rfl
  refine bodyPost_ret (results_2s rfl _ _ (w.heap.size + 1) (r6 s F cF S cS X cA) _ rfl rfl g1 rfl) rfl ?_
  exact ⟨⟨s, F, S, X, cF, cS, cA, false, rfl, fun h => (by cases h), fun _ ⟨s1, h2⟩ => h1.out (hn.out s1 h2).1⟩, g2⟩
 have e1 : Hd ((WD != [99, 97, 99, 104, 101]) = false) := ⟨by simpa using h1⟩
 replace h1 := Hd.mk h1
 by_cases h2 : 0 ≤ N
 rotate_left
 ·have e2 : Hd (decide (N < 0) = true) := ⟨decide_eq_true (by omega)⟩
  have hr : Hd (Rx w.heap.size w (w1.alloc (.cells #[.string ⟨#[112, 97, 103, 101, 115]⟩, .string ⟨#[99, 97, 99, 104, 101]⟩, .string ⟨#[99, 97, 112]⟩] 9)) (r6 s F cF S cS X cA) Z6 ∧ (w1.alloc (.cells #[.string ⟨#[112, 97, 103, 101, 115]⟩, .string ⟨#[99, 97, 99, 104, 101]⟩, .string ⟨#[99, 97, 112]⟩] 9)).rangeAt w.heap.size 0 (r6 s F cF S cS X cA)) := ⟨X2.out, X2.out.bx.range 0 6⟩
  replace h2 := Hd.mk h2
  go_wp2_with (first | (simp only [Bool.false_eq_true, if_false]) | ((with_reducible refine wl_run rfl (ex_sneq _ 9 9 (.tmp 28) (.tmp 32) rfl WD [99, 97, 99, 104, 101] false e1.out rfl rfl) ?_)) | ((refine wlG (ex_lss _ 3 3 (.tmp 35) (.const (.int .i64 0)) rfl .i64 N 0 rfl rfl true e2.out) ?_)) | ((refine wl_load_mid rfl 53 (.tmp 3) rfl w.heap.size 0 rfl (r6 s F cF S cS X cA) hr.out.2 Tryz.underlying53 rfl (by kernel_rfl) ?_)) | (refine wl_store_mid rfl 53 (.tmp 6) (.tmp 38) rfl (w.heap.size + 1) 0 53 Z6 (r6 s F cF S cS X cA) rfl rfl hr.out.1.ou (Nat.le_refl 6) (by kernel_rfl) six_one ?_; intro w3 hb hk hs; replace hb := Hd.mk hb; replace hk := Hd.mk hk; clear hs))
  obtain ⟨g1, g2⟩ := X2.out.give rfl hb.out hk.out rfl
  refine bodyPost_ret (results_2s rfl _ _ (w.heap.size + 1) (r6 s F cF S cS X cA) _ rfl rfl g1 rfl) rfl ?_
  exact ⟨⟨s, F, S, X, cF, cS, cA, false, rfl, fun h => (by cases h), fun _ ⟨s1, h3⟩ => (by have := (hn.out s1 h3).2.1; have := h2.out; omega)⟩, g2⟩
 have e2 : Hd (decide (N < 0) = false) := ⟨decide_eq_false (by omega)⟩
 replace h2 := Hd.mk h2
 have d1 : (w1.alloc (.cells #[.string ⟨#[112, 97, 103, 101, 115]⟩, .string ⟨#[99, 97, 99, 104, 101]⟩, .string ⟨#[99, 97, 112]⟩] 9)).cell? ⟨w.heap.size, 1, none⟩ = some (.int .i64 s.cache) := X2.out.bx.cell 1
 have f1 : (w1.alloc (.cells #[.string ⟨#[112, 97, 103, 101, 115]⟩, .string ⟨#[99, 97, 99, 104, 101]⟩, .string ⟨#[99, 97, 112]⟩] 9)).frozen? ⟨w.heap.size, 1, none⟩ = false := X2.out.bx.free 1
 have X3 : Hd (Rx w.heap.size w (((w1.alloc (.cells #[.string ⟨#[112, 97, 103, 101, 115]⟩, .string ⟨#[99, 97, 99, 104, 101]⟩, .string ⟨#[99, 97, 112]⟩] 9)).setCell ⟨w.heap.size, 1, none⟩ (.int .i64 N)).drew) [.int .i64 s.pages, .int .i64 N, .slice F s.fl.length cF, .slice S s.ss.length cS, .int .i64 s.cap, .slice X s.ac.length cA] Z6) := ⟨(X2.out.put 1 (.int .i64 N)).keep (Kp.refl _ _).drew⟩
 clear X2
 go_wp2_with (first | (simp only [Bool.false_eq_true, if_false]) | ((with_reducible refine wl_run rfl (ex_sneq _ 9 9 (.tmp 28) (.tmp 32) rfl WD [99, 97, 99, 104, 101] false e1.out rfl rfl) ?_)) | ((refine wlG (ex_lss _ 3 3 (.tmp 35) (.const (.int .i64 0)) rfl .i64 N 0 rfl rfl false e2.out) ?_)))
 clear d1 f1
 have hS : Hd ((fun W : World => W.rangeAt w.heap.size 0 [.int .i64 s.pages, .int .i64 N, .slice F s.fl.length cF, .slice S s.ss.length cS, .int .i64 s.cap, .slice X s.ac.length cA]) (((w1.alloc (.cells #[.string ⟨#[112, 97, 103, 101, 115]⟩, .string ⟨#[99, 97, 99, 104, 101]⟩, .string ⟨#[99, 97, 112]⟩] 9)).setCell ⟨w.heap.size, 1, none⟩ (.int .i64 N)).drew)) := ⟨X3.out.bx.range 0 6⟩
 refine rn_begin (fun W : World => W.rangeAt w.heap.size 0 [.int .i64 s.pages, .int .i64 N, .slice F s.fl.length cF, .slice S s.ss.length cS, .int .i64 s.cap, .slice X s.ac.length cA]) (List.range 3) (by kernel_rfl) ?_
 refine rnT [3, 4] 0 52 (.agg ([.int .i64 s.pages, .int .i64 N, .slice F s.fl.length cF, .slice S s.ss.length cS, .int .i64 s.cap, .slice X s.ac.length cA] : List Value).toArray) (fun W hW => ex_load_mid W 53 _ rfl w.heap.size 0 rfl _ hW Tryz.underlying53 rfl (by kernel_rfl)) hS.out ?_
 refine rnT [2, 3, 4] 1 53 (.agg ([.int .i64 s.pages, .int .i64 N, .slice F s.fl.length cF, .slice S s.ss.length cS, .int .i64 s.cap, .slice X s.ac.length cA] : List Value).toArray) (fun W hW => ex_load_mid W 53 _ rfl w.heap.size 0 rfl _ hW Tryz.underlying53 rfl (by kernel_rfl)) hS.out ?_
 simp only [Act.put, uA, uB, uC]
 refine rn_one (i := 2) (dst := some 54) rfl (by kernel_rfl) rfl rfl (fun K hK => ?_)
 refine ow_call 70 _ _ rfl Tryz.func70 (by kernel_rfl) (by kernel_rfl) [.agg ([.int .i64 s.pages, .int .i64 N, .slice F s.fl.length cF, .slice S s.ss.length cS, .int .i64 s.cap, .slice X s.ac.length cA] : List Value).toArray] rfl (hh.out _ X3.out.kp) ?_
 rintro e w5 ⟨⟨bq, rfl, hbq⟩, k5⟩
 have X5 := Hd.mk (X3.out.keep k5)
 have hS5 : Hd ((fun W : World => W.rangeAt w.heap.size 0 [.int .i64 s.pages, .int .i64 N, .slice F s.fl.length cF, .slice S s.ss.length cS, .int .i64 s.cap, .slice X s.ac.length cA]) w5) := ⟨X5.out.bx.range 0 6⟩
 refine ⟨_, rfl, hK _ _ (fun _ => hS5.out) ?_⟩
 clear hK K hS X3
 replace hbq := Hd.mk hbq
 simp only [Act.put, uA, uB, uC]
 refine rn_one (i := 3) (dst := none) rfl (by kernel_rfl) rfl rfl (fun K hK => ?_)
 refine ow_store_mid 53 _ _ rfl (w.heap.size + 1) 0 53 Z6 [.int .i64 s.pages, .int .i64 N, .slice F s.fl.length cF, .slice S s.ss.length cS, .int .i64 s.cap, .slice X s.ac.length cA] rfl rfl X5.out.ou (Nat.le_refl 6) (by kernel_rfl) six_one ?_
 intro w6 hb6 hk6 _
 refine hK _ _ (fun h => (by cases h)) ?_
 clear hK K
 simp only [Act.put, uA, uB, uC]
 obtain ⟨g1, g2⟩ := X5.out.give rfl hb6 hk6 rfl
 replace g1 := Hd.mk g1
 replace g2 := Hd.mk g2
 clear hb6 hk6 k5
 refine rn_one (i := 4) (dst := some 7) rfl (by kernel_rfl) rfl rfl (fun K hK => ?_)
 refine ow_run (ex_assign _ _ (.bool bq) rfl rfl) ?_
 refine hK _ _ (fun h => (by cases h)) ?_
 clear hK K
 simp only [Act.put, uA, uB, uC]
 refine rn_done (by kernel_rfl) ?_ _
 go_wp2_with fail
 refine bodyPost_ret (results_2s rfl _ _ (w.heap.size + 1) [.int .i64 s.pages, .int .i64 N, .slice F s.fl.length cF, .slice S s.ss.length cS, .int .i64 s.cap, .slice X s.ac.length cA] _ rfl rfl g1.out rfl) rfl ?_
 refine ⟨⟨⟨s.pages, N, s.fl, s.ss, s.cap, s.ac⟩, F, S, X, cF, cS, cA, bq, rfl, fun h => ?_, fun h ⟨s1, h3⟩ => ?_⟩, g2.out⟩
 ·exact ⟨hy.out h1.out h2.out (hbq.out.1 h), cs, (hR.out.keep g2.out).head s.pages N s.cap⟩
 ·have := hbq.out.2 (hn.out s1 h3).2.2
  rw [h] at this
  cases this
set_option maxHeartbeats 8000000 in
theorem read_head2 {b : Nat} {w : World} {s : Sc} {F S X : Option Addr} {cF cS cA : Nat} {cs : List Value} (hs : scOk s) (hR : Rz b w s (.slice F s.fl.length cF) (.slice S s.ss.length cS) (.slice X s.ac.length cA) cs) (l : List UInt8) (hl : l.length < 70000) :
  Calls Tryz.prog 77 #[.agg #[.int .i64 s.pages, .int .i64 s.cache, .slice F s.fl.length cF, .slice S s.ss.length cS, .int .i64 s.cap, .slice X s.ac.length cA], .int .i64 2, .string ⟨l.toArray⟩] w fun e w' => ReR b 2 s l w w' e := by
 obtain ⟨WD, hWD⟩ : ∃ x, Hd (wd l = x) := ⟨_, ⟨rfl⟩⟩
 obtain ⟨RS, hRS⟩ : ∃ x, Hd (rs l = x) := ⟨_, ⟨rfl⟩⟩
 obtain ⟨N, hN⟩ : ∃ x, Hd (dig RS = x) := ⟨_, ⟨rfl⟩⟩
 have hc := Hd.mk (fun u => rcut_to hWD.out hRS.out hl u)
 have hd := Hd.mk (fun u => dig_to hN.out (by rw [← hRS.out]; exact Nat.lt_of_le_of_lt (rs_length _) hl) u)
 have hy : Hd (WD = [99, 97, 112] → 0 ≤ N → headOk ⟨s.pages, s.cache, s.fl, s.ss, N, s.ac⟩ → Step 2 s l ⟨s.pages, s.cache, s.fl, s.ss, N, s.ac⟩) := ⟨fun h1 h2 h3 => by
  have e : N = dig (rs l) := by rw [hRS.out, hN.out]
  subst e
  exact step_head_y (k := 2) (by omega) hs (hWD.out.trans h1) h2 h3⟩
 have hn : Hd (∀ s1, Step 2 s l s1 → WD = [99, 97, 112] ∧ 0 ≤ N ∧ headOk ⟨s.pages, s.cache, s.fl, s.ss, N, s.ac⟩) := ⟨fun s1 h1 => by
  have e : N = dig (rs l) := by rw [hRS.out, hN.out]
  obtain ⟨g1, g2, g3⟩ := step_head_n (k := 2) (by omega) h1
  rw [hWD.out] at g1
  subst e
  exact ⟨g1, g2, g3⟩⟩
 have hh := Hd.mk (fun (W : World) (hW : KZ w W) => rhead_at (w := W) ⟨s.pages, s.cache, s.fl, s.ss, N, s.ac⟩ (small_setK hs 2 N) (AF := F) (AS := S) (AA := X) (cF := cF) (cS := cS) (cA := cA) ((hR.keep hW).head s.pages s.cache N).scr2)
 replace hR := Hd.mk hR
 clear hs hl
 go_enter Tryz.func77, Tryz.ntmps77
 go_wp2_with fail
 refine (hc.out _).mono ?_
 rintro e w1 ⟨⟨b0, rfl⟩, k1⟩
 have X1 := Hd.mk ((Rx.start w (r6 s F cF S cS X cA)).keep k1)
 clear k1
 go_wp2_with fail
 refine (hd.out w1).mono ?_
 rintro e w2 ⟨rfl, rfl⟩
 have X2 := Hd.mk (X1.out.keep ((Kp.refl _ w1).alloc (.cells #[.string ⟨#[112, 97, 103, 101, 115]⟩, .string ⟨#[99, 97, 99, 104, 101]⟩, .string ⟨#[99, 97, 112]⟩] 9)))
 clear X1
 by_cases h1 : WD = [99, 97, 112]
 rotate_left
 ·have e1 : Hd ((WD != [99, 97, 112]) = true) := ⟨by simpa using h1⟩
  have hr : Hd (Rx w.heap.size w (w1.alloc (.cells #[.string ⟨#[112, 97, 103, 101, 115]⟩, .string ⟨#[99, 97, 99, 104, 101]⟩, .string ⟨#[99, 97, 112]⟩] 9)) (r6 s F cF S cS X cA) Z6 ∧ (w1.alloc (.cells #[.string ⟨#[112, 97, 103, 101, 115]⟩, .string ⟨#[99, 97, 99, 104, 101]⟩, .string ⟨#[99, 97, 112]⟩] 9)).rangeAt w.heap.size 0 (r6 s F cF S cS X cA)) := ⟨X2.out, X2.out.bx.range 0 6⟩
  replace h1 := Hd.mk h1
  go_wp2_with (first | (simp only [Bool.false_eq_true, if_false]) | ((with_reducible refine wl_run rfl (ex_sneq _ 9 9 (.tmp 28) (.tmp 32) rfl WD [99, 97, 112] true e1.out rfl rfl) ?_)) | ((refine wl_load_mid rfl 53 (.tmp 3) rfl w.heap.size 0 rfl (r6 s F cF S cS X cA) hr.out.2 Tryz.underlying53 rfl (by kernel_rfl) ?_)) | (refine wl_store_mid rfl 53 (.tmp 6) (.tmp 38) rfl (w.heap.size + 1) 0 53 Z6 (r6 s F cF S cS X cA) rfl rfl hr.out.1.ou (Nat.le_refl 6) (by kernel_rfl) six_one ?_; intro w3 hb hk hs; replace hb := Hd.mk hb; replace hk := Hd.mk hk; clear hs))
  obtain ⟨g1, g2⟩ := X2.out.give rfl hb.out hk.out rfl
  refine bodyPost_ret (results_2s rfl _ _ (w.heap.size + 1) (r6 s F cF S cS X cA) _ rfl rfl g1 rfl) rfl ?_
  exact ⟨⟨s, F, S, X, cF, cS, cA, false, rfl, fun h => (by cases h), fun _ ⟨s1, h2⟩ => h1.out (hn.out s1 h2).1⟩, g2⟩
 have e1 : Hd ((WD != [99, 97, 112]) = false) := ⟨by simpa using h1⟩
 replace h1 := Hd.mk h1
 by_cases h2 : 0 ≤ N
 rotate_left
 ·have e2 : Hd (decide (N < 0) = true) := ⟨decide_eq_true (by omega)⟩
  have hr : Hd (Rx w.heap.size w (w1.alloc (.cells #[.string ⟨#[112, 97, 103, 101, 115]⟩, .string ⟨#[99, 97, 99, 104, 101]⟩, .string ⟨#[99, 97, 112]⟩] 9)) (r6 s F cF S cS X cA) Z6 ∧ (w1.alloc (.cells #[.string ⟨#[112, 97, 103, 101, 115]⟩, .string ⟨#[99, 97, 99, 104, 101]⟩, .string ⟨#[99, 97, 112]⟩] 9)).rangeAt w.heap.size 0 (r6 s F cF S cS X cA)) := ⟨X2.out, X2.out.bx.range 0 6⟩
  replace h2 := Hd.mk h2
  go_wp2_with (first | (simp only [Bool.false_eq_true, if_false]) | ((with_reducible refine wl_run rfl (ex_sneq _ 9 9 (.tmp 28) (.tmp 32) rfl WD [99, 97, 112] false e1.out rfl rfl) ?_)) | ((refine wlG (ex_lss _ 3 3 (.tmp 35) (.const (.int .i64 0)) rfl .i64 N 0 rfl rfl true e2.out) ?_)) | ((refine wl_load_mid rfl 53 (.tmp 3) rfl w.heap.size 0 rfl (r6 s F cF S cS X cA) hr.out.2 Tryz.underlying53 rfl (by kernel_rfl) ?_)) | (refine wl_store_mid rfl 53 (.tmp 6) (.tmp 38) rfl (w.heap.size + 1) 0 53 Z6 (r6 s F cF S cS X cA) rfl rfl hr.out.1.ou (Nat.le_refl 6) (by kernel_rfl) six_one ?_; intro w3 hb hk hs; replace hb := Hd.mk hb; replace hk := Hd.mk hk; clear hs))
  obtain ⟨g1, g2⟩ := X2.out.give rfl hb.out hk.out rfl
  refine bodyPost_ret (results_2s rfl _ _ (w.heap.size + 1) (r6 s F cF S cS X cA) _ rfl rfl g1 rfl) rfl ?_
  exact ⟨⟨s, F, S, X, cF, cS, cA, false, rfl, fun h => (by cases h), fun _ ⟨s1, h3⟩ => (by have := (hn.out s1 h3).2.1; have := h2.out; omega)⟩, g2⟩
 have e2 : Hd (decide (N < 0) = false) := ⟨decide_eq_false (by omega)⟩
 replace h2 := Hd.mk h2
 have d1 : (w1.alloc (.cells #[.string ⟨#[112, 97, 103, 101, 115]⟩, .string ⟨#[99, 97, 99, 104, 101]⟩, .string ⟨#[99, 97, 112]⟩] 9)).cell? ⟨w.heap.size, 4, none⟩ = some (.int .i64 s.cap) := X2.out.bx.cell 4
 have f1 : (w1.alloc (.cells #[.string ⟨#[112, 97, 103, 101, 115]⟩, .string ⟨#[99, 97, 99, 104, 101]⟩, .string ⟨#[99, 97, 112]⟩] 9)).frozen? ⟨w.heap.size, 4, none⟩ = false := X2.out.bx.free 4
 have X3 : Hd (Rx w.heap.size w (((w1.alloc (.cells #[.string ⟨#[112, 97, 103, 101, 115]⟩, .string ⟨#[99, 97, 99, 104, 101]⟩, .string ⟨#[99, 97, 112]⟩] 9)).setCell ⟨w.heap.size, 4, none⟩ (.int .i64 N)).drew) [.int .i64 s.pages, .int .i64 s.cache, .slice F s.fl.length cF, .slice S s.ss.length cS, .int .i64 N, .slice X s.ac.length cA] Z6) := ⟨(X2.out.put 4 (.int .i64 N)).keep (Kp.refl _ _).drew⟩
 clear X2
 go_wp2_with (first | (simp only [Bool.false_eq_true, if_false]) | ((with_reducible refine wl_run rfl (ex_sneq _ 9 9 (.tmp 28) (.tmp 32) rfl WD [99, 97, 112] false e1.out rfl rfl) ?_)) | ((refine wlG (ex_lss _ 3 3 (.tmp 35) (.const (.int .i64 0)) rfl .i64 N 0 rfl rfl false e2.out) ?_)))
 clear d1 f1
 have hS : Hd ((fun W : World => W.rangeAt w.heap.size 0 [.int .i64 s.pages, .int .i64 s.cache, .slice F s.fl.length cF, .slice S s.ss.length cS, .int .i64 N, .slice X s.ac.length cA]) (((w1.alloc (.cells #[.string ⟨#[112, 97, 103, 101, 115]⟩, .string ⟨#[99, 97, 99, 104, 101]⟩, .string ⟨#[99, 97, 112]⟩] 9)).setCell ⟨w.heap.size, 4, none⟩ (.int .i64 N)).drew)) := ⟨X3.out.bx.range 0 6⟩
 refine rn_begin (fun W : World => W.rangeAt w.heap.size 0 [.int .i64 s.pages, .int .i64 s.cache, .slice F s.fl.length cF, .slice S s.ss.length cS, .int .i64 N, .slice X s.ac.length cA]) (List.range 3) (by kernel_rfl) ?_
 refine rnT [3, 4] 0 52 (.agg ([.int .i64 s.pages, .int .i64 s.cache, .slice F s.fl.length cF, .slice S s.ss.length cS, .int .i64 N, .slice X s.ac.length cA] : List Value).toArray) (fun W hW => ex_load_mid W 53 _ rfl w.heap.size 0 rfl _ hW Tryz.underlying53 rfl (by kernel_rfl)) hS.out ?_
 refine rnT [2, 3, 4] 1 53 (.agg ([.int .i64 s.pages, .int .i64 s.cache, .slice F s.fl.length cF, .slice S s.ss.length cS, .int .i64 N, .slice X s.ac.length cA] : List Value).toArray) (fun W hW => ex_load_mid W 53 _ rfl w.heap.size 0 rfl _ hW Tryz.underlying53 rfl (by kernel_rfl)) hS.out ?_
 simp only [Act.put, uA, uB, uC]
 refine rn_one (i := 2) (dst := some 54) rfl (by kernel_rfl) rfl rfl (fun K hK => ?_)
 refine ow_call 70 _ _ rfl Tryz.func70 (by kernel_rfl) (by kernel_rfl) [.agg ([.int .i64 s.pages, .int .i64 s.cache, .slice F s.fl.length cF, .slice S s.ss.length cS, .int .i64 N, .slice X s.ac.length cA] : List Value).toArray] rfl (hh.out _ X3.out.kp) ?_
 rintro e w5 ⟨⟨bq, rfl, hbq⟩, k5⟩
 have X5 := Hd.mk (X3.out.keep k5)
 have hS5 : Hd ((fun W : World => W.rangeAt w.heap.size 0 [.int .i64 s.pages, .int .i64 s.cache, .slice F s.fl.length cF, .slice S s.ss.length cS, .int .i64 N, .slice X s.ac.length cA]) w5) := ⟨X5.out.bx.range 0 6⟩
 refine ⟨_, rfl, hK _ _ (fun _ => hS5.out) ?_⟩
 clear hK K hS X3
 replace hbq := Hd.mk hbq
 simp only [Act.put, uA, uB, uC]
 refine rn_one (i := 3) (dst := none) rfl (by kernel_rfl) rfl rfl (fun K hK => ?_)
 refine ow_store_mid 53 _ _ rfl (w.heap.size + 1) 0 53 Z6 [.int .i64 s.pages, .int .i64 s.cache, .slice F s.fl.length cF, .slice S s.ss.length cS, .int .i64 N, .slice X s.ac.length cA] rfl rfl X5.out.ou (Nat.le_refl 6) (by kernel_rfl) six_one ?_
 intro w6 hb6 hk6 _
 refine hK _ _ (fun h => (by cases h)) ?_
 clear hK K
 simp only [Act.put, uA, uB, uC]
 obtain ⟨g1, g2⟩ := X5.out.give rfl hb6 hk6 rfl
 replace g1 := Hd.mk g1
 replace g2 := Hd.mk g2
 clear hb6 hk6 k5
 refine rn_one (i := 4) (dst := some 7) rfl (by kernel_rfl) rfl rfl (fun K hK => ?_)
 refine ow_run (ex_assign _ _ (.bool bq) rfl rfl) ?_
 refine hK _ _ (fun h => (by cases h)) ?_
 clear hK K
 simp only [Act.put, uA, uB, uC]
 refine rn_done (by kernel_rfl) ?_ _
 go_wp2_with fail
 refine bodyPost_ret (results_2s rfl _ _ (w.heap.size + 1) [.int .i64 s.pages, .int .i64 s.cache, .slice F s.fl.length cF, .slice S s.ss.length cS, .int .i64 N, .slice X s.ac.length cA] _ rfl rfl g1.out rfl) rfl ?_
 refine ⟨⟨⟨s.pages, s.cache, s.fl, s.ss, N, s.ac⟩, F, S, X, cF, cS, cA, bq, rfl, fun h => ?_, fun h ⟨s1, h3⟩ => ?_⟩, g2.out⟩
 ·exact ⟨hy.out h1.out h2.out (hbq.out.1 h), cs, (hR.out.keep g2.out).head s.pages s.cache N⟩
 ·have := hbq.out.2 (hn.out s1 h3).2.2
  rw [h] at this
  cases this
end Go.Proofs.YtkcechpaeilaeaaGreatDoor
