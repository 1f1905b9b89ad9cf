/- ScriptActs' walk. -/
import Derived.Test.YtkcechpaeilaeaaGreatDoorV5
import Derived.Test.YtkcechpaeilaeaaGreatDoorA12
import Derived.Test.YtkcechpaeilaeaaGreatDoorL10
namespace Go.Proofs.YtkcechpaeilaeaaGreatDoor
open Go.RowKit
set_option linter.unusedVariables false
set_option linter.unusedSimpArgs false
set_option maxRecDepth 100000

theorem ex_addv {P : Program} {o : Oper} {a : Act} (w : World) (t t2 : Nat) (x y : Operand) (ho : o.op = .binOp .add t x y t2) (p q : Int) (hx : a.eval x = .int .i64 p) (hy : a.eval y = .int .i64 q) (z : Int) (hz : IntKind.i64.wrap (p + q) = z) :
    (execOp a.eval o).run P w = .ok (.value (.int .i64 z)) w := by
  unfold execOp
  simp only [ho, hx, hy, Sem.run_bind]
  have hg : (eqGuard .add t x y (.int .i64 p) (.int .i64 q)).run P w = .ok () w := by rfl
  have hb : (binOp .add t (.int .i64 p) (.int .i64 q)).run P w = .ok (.int .i64 z) w := by
    simp only [binOp, Op.intArith, hz, ne_eq, not_true_eq_false, if_false]
    rfl
  rw [hg]
  simp only [Result.andThen_ok, hb]
  rfl
theorem lineV_ex (a : A) : ∃ (s : List UInt8) (n : Int), lineV a = .tuple #[.string ⟨s.toArray⟩, .int .i64 n] := by
  by_cases h : may a
  · exact ⟨_, _, lineV_yes h⟩
  · exact ⟨[], 270, lineV_no h⟩
set_option maxHeartbeats 4000000 in
theorem scriptacts_at (a : A) (l : List UInt8) {w : World} (hE0 : Ev w) (At : Option Addr) (ct : Nat) (Ap : Option Addr) (cp : Nat) (hT0 : Bs w (.slice At a.t.length ct) (ints a.t)) (hP0 : Bs w (.slice Ap a.p.length cp) (ints a.p)) :
    Calls Tryz.prog 3 #[.agg #[.int .i64 a.d, .string ⟨a.k.toArray⟩, .slice At a.t.length ct, .int .i64 a.n, .slice Ap a.p.length cp], .string ⟨l.toArray⟩] w fun e w' => e = .returned (.bool true) ∧ Kp (fun _ => False) w w' := by
  have hE := Hd.mk hE0
  have hT := Hd.mk hT0
  have hP := Hd.mk hP0
  have K0 : Hd (Kp (fun _ => False) w (w.alloc (.cells #[.int .i64 a.d, .string ⟨a.k.toArray⟩, .slice At a.t.length ct, .int .i64 a.n, .slice Ap a.p.length cp] 24))) := ⟨(Kp.refl _ w).alloc _⟩
  have R0 := Hd.mk (row_new w (.int .i64 a.d) (.string ⟨a.k.toArray⟩) (.slice At a.t.length ct) (.int .i64 a.n) (.slice Ap a.p.length cp))
  obtain ⟨z1, hz1⟩ : ∃ z, Hd (IntKind.i64.wrap ((a.k.length : Int) + (a.t.length : Int)) = z) := ⟨_, ⟨rfl⟩⟩
  obtain ⟨z2, hz2⟩ : ∃ z, Hd (IntKind.i64.wrap (z1 + (a.p.length : Int)) = z) := ⟨_, ⟨rfl⟩⟩
  obtain ⟨g1, hg1⟩ : ∃ z, Hd (decide (10000 < z2) = z) := ⟨_, ⟨rfl⟩⟩
  obtain ⟨g2, hg2⟩ : ∃ z, Hd (decide (10000 < (l.length : Int)) = z) := ⟨_, ⟨rfl⟩⟩
  obtain ⟨s, ev, hs⟩ := lineV_ex a
  have hL := Hd.mk (fun w1 (h1 : Kp (fun _ => False) w w1) => line_at a (hE0.keep h1) At ct Ap cp (bs_kp hT0 h1) (bs_kp hP0 h1))
  have hR := Hd.mk (fun w1 (h1 : Kp (fun _ => False) w w1) => rline_at a (w := w1) At ct Ap cp (bs_kp hT0 h1) (bs_kp hP0 h1))
  rw [hs] at hL hR
  have hss : Hd ((s == s) = true) := ⟨by simp⟩
  clear hE0 hT0 hP0 hs
  have hlv : Hd (Calls Tryz.prog 8 #[] (w.alloc (.cells #[.int .i64 a.d, .string ⟨a.k.toArray⟩, .slice At a.t.length ct, .int .i64 a.n, .slice Ap a.p.length cp] 24)) fun e w' => e = .returned (.bool true) ∧ Kp (fun _ => False) (w.alloc (.cells #[.int .i64 a.d, .string ⟨a.k.toArray⟩, .slice At a.t.length ct, .int .i64 a.n, .slice Ap a.p.length cp] 24)) w') := ⟨live_at (hE.out.keep K0.out)⟩
  obtain ⟨d, k, t, n, p⟩ := a
  simp only at *
  cases g1
  · cases g2
    · go_enter Tryz.func3, Tryz.ntmps3
      go_wp2_with fail
      refine hlv.out.mono ?_
      rintro e w1 ⟨rfl, k1⟩
      have K1 := Hd.mk (K0.out.andThen k1 (fun _ _ h => h))
      have R1 := Hd.mk (range_keep R0.out k1)
      obtain ⟨d0, d1, d2, d3, d4⟩ := row_sees R0.out k1
      clear K0 R0 k1 hlv
      go_wp2_with (first | ((with_reducible refine wl_runG ?hw (ex_addv _ 3 3 (.tmp 18) (.tmp 21) rfl _ _ rfl rfl z1 hz1.out) ?_); (case hw => rfl); simp only [Act.put, List.setIfInBounds_toArray, List.set_cons_zero, List.set_cons_succ]) | ((with_reducible refine wl_runG ?hw (ex_addv _ 3 3 (.tmp 22) (.tmp 25) rfl _ _ rfl rfl z2 hz2.out) ?_); (case hw => rfl); simp only [Act.put, List.setIfInBounds_toArray, List.set_cons_zero, List.set_cons_succ]) | ((with_reducible refine wl_runG ?hw (ex_gtr _ 3 3 (.tmp 26) (.const (.int .i64 10000)) rfl .i64 z2 10000 rfl rfl false hg1.out) ?_); (case hw => rfl); simp only [Act.put, List.setIfInBounds_toArray, List.set_cons_zero, List.set_cons_succ]) | ((with_reducible refine wl_runG ?hw (ex_gtr _ 3 3 (.tmp 31) (.const (.int .i64 10000)) rfl .i64 (l.length : Int) 10000 rfl rfl false hg2.out) ?_); (case hw => rfl); simp only [Act.put, List.setIfInBounds_toArray, List.set_cons_zero, List.set_cons_succ]))
      refine (hL.out w1 K1.out).mono ?_
      rintro e w2 ⟨rfl, k2⟩
      have K2 := Hd.mk (K1.out.andThen k2 (fun _ _ h => h))
      clear d0 d1 d2 d3 d4 
      obtain ⟨d0, d1, d2, d3, d4⟩ := row_sees R1.out k2
      clear K1 R1 k2
      go_wp2_with fail
      refine (hR.out w2 K2.out).mono ?_
      rintro e w3 ⟨rfl, k3⟩
      have K3 := Hd.mk (K2.out.andThen k3 (fun _ _ h => h))
      have hl20 : l.length < 20000 := by
        have := of_decide_eq_false hg2.out
        omega
      have hx1 := Hd.mk (act_at hl20 (hE.out.keep K3.out))
      have hx2 := Hd.mk (fun w => ract_at hl20 w)
      clear d0 d1 d2 d3 d4 K2 k3 hl20
      go_wp2_with fail
      refine hx1.out.mono ?_
      rintro e w4 ⟨⟨b1, Bt, bt, Bp, bp, ok1, rfl, y1, n1, T1, P1⟩, k4⟩
      have K4 := Hd.mk (K3.out.andThen k4 (fun _ _ h => h))
      have R4 := Hd.mk (row_new w4 (.int .i64 b1.d) (.string ⟨b1.k.toArray⟩) (.slice Bt b1.t.length bt) (.int .i64 b1.n) (.slice Bp b1.p.length bp))
      have J4 : Hd (Kp (fun _ => False) w4 (w4.alloc (.cells #[.int .i64 b1.d, .string ⟨b1.k.toArray⟩, .slice Bt b1.t.length bt, .int .i64 b1.n, .slice Bp b1.p.length bp] 24))) := ⟨(Kp.refl _ w4).alloc _⟩
      have y1 := Hd.mk y1
      have n1 := Hd.mk n1
      have T1 := Hd.mk T1
      have P1 := Hd.mk P1
      obtain ⟨f1, hf1⟩ : ∃ x, Hd ((if ok1 then (0 : Int) else 270) = x) := ⟨_, ⟨rfl⟩⟩
      rw [hf1.out]
      clear k4 K3 hx1
      go_wp2_with fail
      refine (hx2.out _).mono ?_
      rintro e w5 ⟨⟨b2, Ct, ct2, Cp, cp2, ok2, rfl, y2, n2, T2, P2⟩, k5⟩
      have K5 := Hd.mk (K4.out.andThen (J4.out.andThen k5 (fun _ _ h => h)) (fun _ _ h => h))
      have hbb : b2 = b1 ∧ ok2 = ok1 := by
        obtain ⟨h1, h2⟩ := says_one y1.out y2
        refine ⟨?_, h1.symm⟩
        cases ok1 with
        | true => exact (h2 rfl).symm
        | false => exact (n2 h1.symm).trans (n1.out rfl).symm
      obtain ⟨rfl, rfl⟩ := hbb
      have J5 : Hd (Kp (fun _ => False) w5 (w5.alloc (.cells #[.int .i64 b2.d, .string ⟨b2.k.toArray⟩, .slice Ct b2.t.length ct2, .int .i64 b2.n, .slice Cp b2.p.length cp2] 24))) := ⟨(Kp.refl _ w5).alloc _⟩
      obtain ⟨d0, d1, d2, d3, d4⟩ := row_sees R4.out (k5.andThen J5.out (fun _ _ h => h))
      have T5 := Hd.mk (bs_kp T1.out (J4.out.andThen (k5.andThen J5.out (fun _ _ h => h)) (fun _ _ h => h)))
      have P5 := Hd.mk (bs_kp P1.out (J4.out.andThen (k5.andThen J5.out (fun _ _ h => h)) (fun _ _ h => h)))
      have T6 := Hd.mk (bs_kp T2 J5.out)
      have P6 := Hd.mk (bs_kp P2 J5.out)
      have K6 := Hd.mk (K5.out.andThen J5.out (fun _ _ h => h))
      have hsm := Hd.mk (same_at b2 T5.out P5.out T6.out P6.out)
      rw [hf1.out]
      clear hf1 y1 n1 y2 n2 T1 P1 T2 P2 R4 J4 J5 k5 K4 K5 T5 P5 T6 P6 hx2 hE hT hP hL hR hg1 hg2 hz1 hz2
      obtain ⟨bd, bk, bt2, bn, bp2⟩ := b2
      simp only at *
      go_wp2_with (first | (with_reducible refine wl_run rfl (ex_seql _ 9 9 (.tmp 55) (.tmp 56) rfl s s true hss.out rfl rfl) ?_) | (go_at_call 13; refine hsm.out.mono ?_; rintro e w6 ⟨rfl, k6⟩; have K7 := Hd.mk (K6.out.andThen k6 (fun _ _ h => h)); clear k6; dsimp only))
      go_ret
      exact ⟨rfl, K7.out⟩
    · go_enter Tryz.func3, Tryz.ntmps3
      go_wp2_with fail
      refine hlv.out.mono ?_
      rintro e w1 ⟨rfl, k1⟩
      have K1 := Hd.mk (K0.out.andThen k1 (fun _ _ h => h))
      obtain ⟨d0, d1, d2, d3, d4⟩ := row_sees R0.out k1
      clear K0 R0 k1 hlv
      go_wp2_with (first | (go_at_call 8; refine (live_at (hE.out.keep K1.out)).mono ?_; rintro e w2 ⟨rfl, k2⟩; have K2 := Hd.mk (K1.out.andThen k2 (fun _ _ h => h)); clear k2; dsimp only) | ((with_reducible refine wl_runG ?hw (ex_addv _ 3 3 (.tmp 18) (.tmp 21) rfl _ _ rfl rfl z1 hz1.out) ?_); (case hw => rfl); simp only [Act.put, List.setIfInBounds_toArray, List.set_cons_zero, List.set_cons_succ]) | ((with_reducible refine wl_runG ?hw (ex_addv _ 3 3 (.tmp 22) (.tmp 25) rfl _ _ rfl rfl z2 hz2.out) ?_); (case hw => rfl); simp only [Act.put, List.setIfInBounds_toArray, List.set_cons_zero, List.set_cons_succ]) | ((with_reducible refine wl_runG ?hw (ex_gtr _ 3 3 (.tmp 26) (.const (.int .i64 10000)) rfl .i64 z2 10000 rfl rfl false hg1.out) ?_); (case hw => rfl); simp only [Act.put, List.setIfInBounds_toArray, List.set_cons_zero, List.set_cons_succ]) | ((with_reducible refine wl_runG ?hw (ex_gtr _ 3 3 (.tmp 31) (.const (.int .i64 10000)) rfl .i64 (l.length : Int) 10000 rfl rfl true hg2.out) ?_); (case hw => rfl); simp only [Act.put, List.setIfInBounds_toArray, List.set_cons_zero, List.set_cons_succ]))
      go_ret
      exact ⟨rfl, K2.out⟩
  · go_enter Tryz.func3, Tryz.ntmps3
    go_wp2_with fail
    refine hlv.out.mono ?_
    rintro e w1 ⟨rfl, k1⟩
    have K1 := Hd.mk (K0.out.andThen k1 (fun _ _ h => h))
    obtain ⟨d0, d1, d2, d3, d4⟩ := row_sees R0.out k1
    clear K0 R0 k1 hlv
    go_wp2_with (first | (go_at_call 8; refine (live_at (hE.out.keep K1.out)).mono ?_; rintro e w2 ⟨rfl, k2⟩; have K2 := Hd.mk (K1.out.andThen k2 (fun _ _ h => h)); clear k2; dsimp only) | ((with_reducible refine wl_runG ?hw (ex_addv _ 3 3 (.tmp 18) (.tmp 21) rfl _ _ rfl rfl z1 hz1.out) ?_); (case hw => rfl); simp only [Act.put, List.setIfInBounds_toArray, List.set_cons_zero, List.set_cons_succ]) | ((with_reducible refine wl_runG ?hw (ex_addv _ 3 3 (.tmp 22) (.tmp 25) rfl _ _ rfl rfl z2 hz2.out) ?_); (case hw => rfl); simp only [Act.put, List.setIfInBounds_toArray, List.set_cons_zero, List.set_cons_succ]) | ((with_reducible refine wl_runG ?hw (ex_gtr _ 3 3 (.tmp 26) (.const (.int .i64 10000)) rfl .i64 z2 10000 rfl rfl true hg1.out) ?_); (case hw => rfl); simp only [Act.put, List.setIfInBounds_toArray, List.set_cons_zero, List.set_cons_succ]) | ((with_reducible refine wl_runG ?hw (ex_gtr _ 3 3 (.tmp 31) (.const (.int .i64 10000)) rfl .i64 (l.length : Int) 10000 rfl rfl false hg2.out) ?_); (case hw => rfl); simp only [Act.put, List.setIfInBounds_toArray, List.set_cons_zero, List.set_cons_succ]))
    go_ret
    exact ⟨rfl, K2.out⟩
end Go.Proofs.YtkcechpaeilaeaaGreatDoor
