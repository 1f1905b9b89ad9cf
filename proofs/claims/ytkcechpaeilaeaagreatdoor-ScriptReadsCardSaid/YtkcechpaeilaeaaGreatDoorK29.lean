/- Joined out of: R20 R12. -/
import Derived.Test.YtkcechpaeilaeaaGreatDoorK24
import Derived.Test.YtkcechpaeilaeaaGreatDoorK28
import Derived.RangeFuncCalls
set_option linter.unusedVariables false
set_option linter.unusedSimpArgs false
namespace Go.Proofs.YtkcechpaeilaeaaGreatDoor
open Go.RowKit
set_option maxRecDepth 100000
set_option maxHeartbeats 32000000 in
theorem read_act {b : Nat} {w : World} {s : Sc} {F S X : Option Addr} {cF cS cA : Nat} {cs : List Value} {k : Nat} (hk : 3 ≤ k) (hs : scOk s) (hR : Rz b w s (.slice F s.fl.length cF) (.slice S s.ss.length cS) (.slice X s.ac.length cA) cs) (hb : b ≤ w.heap.size) (l : List UInt8) (hl : l.length < 70000)
  (h1 : ¬ (wd l = [102, 111, 108, 100] ∧ s.ss = [] ∧ s.ac = [])) (h2 : ¬ (wd l = [115, 116, 111, 112] ∧ s.ac = [])) :
  Calls Tryz.prog 77 #[.agg #[.int .i64 s.pages, .int .i64 s.cache, .slice F s.fl.length cF, .slice S s.ss.length cS, .int .i64 s.cap, .slice X s.ac.length cA], .int .i64 (k : Int), .string ⟨l.toArray⟩] w fun e w' => ReR b k s l w w' e := by
 obtain ⟨pages, cache, fl, ss, cap, ac⟩ := s
 simp only at h1 h2 hR ⊢
 have hr4 : ac.length ≤ 400 := hs.2.1
 obtain ⟨WD, hWD⟩ : ∃ x, wd l = x := ⟨_, rfl⟩
 obtain ⟨RS, hRS⟩ : ∃ x, rs l = x := ⟨_, rfl⟩
 have hc := Hd.mk (fun u => rcut_to hWD hRS hl u)
 have hu : Hd (∀ u, Calls Tryz.prog 12 #[.string ⟨l.toArray⟩] u fun e w' => ActR l u w' e) := ⟨fun u => ract_at hl u⟩
 have hy : Hd (∀ x, may x → line x = l → ac.length + 1 ≤ 400 → Step k ⟨pages, cache, fl, ss, cap, ac⟩ l ⟨pages, cache, fl, ss, cap, ac ++ [x]⟩) := ⟨fun x g1 g2 g3 => step_act_y hk hs g1 g2 g3⟩
 have hno : Hd (∀ s1, Step k ⟨pages, cache, fl, ss, cap, ac⟩ l s1 → (∃ a, may a ∧ line a = l) ∧ ac.length + 1 ≤ 400) := ⟨fun s1 g => step_act_n hk h1 h2 g⟩
 have hO : Hd (Or 0 24 5 w (.slice X ac.length cA) ac.length cs) := ⟨Or.mono hR.ra (Nat.zero_le b)⟩
 have hz : Hd (ac.length = 0 → (.slice X ac.length cA : Value) = .slice none 0 0) := ⟨hR.za⟩
 have hf1 := Hd.mk hR.one
 have hfold : Hd (∀ (W : World) (V : Value) (x : A) (At Ap : Option Addr) (ct cp : Nat), KZ w W → Or (w.heap.size + 2) 24 5 W V (ac.length + 1) (cs ++ arow x At ct Ap cp) → BsF (w.heap.size + 2) W (.slice At x.t.length ct) (ints x.t) → BsF (w.heap.size + 2) W (.slice Ap x.p.length cp) (ints x.p) →
   Rz b W ⟨pages, cache, fl, ss, cap, ac ++ [x]⟩ (.slice F fl.length cF) (.slice S ss.length cS) V (cs ++ arow x At ct Ap cp)) := ⟨fun W V x At Ap ct cp hk ho hT hP => (hR.keep hk).act (ho.mono (by omega)) (hT.mono (by omega)) (hP.mono (by omega))⟩
 obtain ⟨q1, e1⟩ : ∃ q, (WD == [102, 111, 108, 100]) = q := ⟨_, rfl⟩
 obtain ⟨q2, e2⟩ : ∃ q, (WD == [115, 116, 111, 112]) = q := ⟨_, rfl⟩
 obtain ⟨r3, e3⟩ : ∃ q, decide ((ss.length : Int) = 0) = q := ⟨_, rfl⟩
 obtain ⟨r4, e4⟩ : ∃ q, decide ((ac.length : Int) = 0) = q := ⟨_, rfl⟩
 have hq : (q1 = false ∧ q2 = false) ∨ (q1 = false ∧ q2 = true ∧ r4 = false) ∨ (q1 = true ∧ r3 = false ∧ q2 = false) ∨ (q1 = true ∧ r3 = true ∧ r4 = false ∧ q2 = false) := by
  rw [hWD] at h1 h2
  have z3 : r3 = true → ss = [] := fun h => by
   rw [h] at e3
   have := of_decide_eq_true e3
   exact List.eq_nil_of_length_eq_zero (by omega)
  have z4 : r4 = true → ac = [] := fun h => by
   rw [h] at e4
   have := of_decide_eq_true e4
   exact List.eq_nil_of_length_eq_zero (by omega)
  cases q1 with
  | false =>
   cases q2 with
   | false => exact .inl ⟨rfl, rfl⟩
   | true =>
    refine .inr (.inl ⟨rfl, rfl, ?_⟩)
    cases r4 with
    | false => rfl
    | true => exact absurd ⟨by simpa using e2, z4 rfl⟩ h2
  | true =>
   have ew : WD = [102, 111, 108, 100] := by simpa using e1
   have eq2 : q2 = false := by rw [← e2, ew]; decide
   cases r3 with
   | false => exact .inr (.inr (.inl ⟨rfl, rfl, eq2⟩))
   | true =>
    refine .inr (.inr (.inr ⟨rfl, rfl, ?_, eq2⟩))
    cases r4 with
    | false => rfl
    | true => exact absurd ⟨ew, z3 rfl, z4 rfl⟩ h1
 obtain ⟨n, hn⟩ : ∃ n, fl.length = n := ⟨_, rfl⟩
 obtain ⟨m, hm⟩ : ∃ m, ss.length = m := ⟨_, rfl⟩
 obtain ⟨r, hr⟩ : ∃ r, ac.length = r := ⟨_, rfl⟩
 rw [hn] at hfold ⊢
 rw [hm] at hfold e3 ⊢
 rw [hr] at hr4 hy hno hO hz hfold e4 ⊢
 have q3 : Hd (decide ((k : Int) < 3) = false) := ⟨decide_eq_false (by omega)⟩
 replace e1 := Hd.mk e1
 replace e2 := Hd.mk e2
 replace e3 := Hd.mk e3
 replace e4 := Hd.mk e4
 replace hn := Hd.mk hn
 replace hm := Hd.mk hm
 replace hr := Hd.mk hr
 clear hs hR hb hl hRS hk h1 h2 hWD
 rcases hq with ⟨rfl, rfl⟩ | ⟨rfl, rfl, rfl⟩ | ⟨rfl, rfl, rfl⟩ | ⟨rfl, rfl, rfl, rfl⟩ <;> (
  go_enter Tryz.func77, Tryz.ntmps77
  go_wp2_with fail
  refine (hc.out _).mono ?_
  rintro e w1 ⟨⟨b0, rfl⟩, k1⟩
  have X1 := Hd.mk ((Rx.start w [.int .i64 pages, .int .i64 cache, .slice F n cF, .slice S m cS, .int .i64 cap, .slice X r cA]).keep k1)
  have c3 : w1.cell? ⟨w.heap.size, 3, none⟩ = some (.slice S m cS) := X1.out.bx.cell 3
  have c5 : w1.cell? ⟨w.heap.size, 5, none⟩ = some (.slice X r cA) := X1.out.bx.cell 5
  clear k1
  go_wp2_with (first | (simp only [Bool.false_eq_true, if_false]) | ((with_reducible refine wl_run rfl (ex_lss _ 3 3 (.tmp 24) (.const (.int .i64 3)) rfl .i64 (k : Int) 3 rfl rfl false q3.out) ?_); simp only [Act.put, uA, uB, uC]) | ((with_reducible refine wl_run rfl (ex_seql _ 9 9 (.tmp 55) (.const (.string ⟨#[102, 111, 108, 100]⟩)) rfl WD [102, 111, 108, 100] _ e1.out rfl rfl) ?_); simp only [Act.put, uA, uB, uC]) | ((with_reducible refine wl_run rfl (ex_seql _ 9 9 (.tmp 112) (.const (.string ⟨#[115, 116, 111, 112]⟩)) rfl WD [115, 116, 111, 112] _ e2.out rfl rfl) ?_); simp only [Act.put, uA, uB, uC]) | ((refine wlG (ex_eql _ 3 3 (.tmp 61) (.const (.int .i64 0)) rfl .i64 (m : Int) 0 rfl rfl _ e3.out) ?_); simp only [Act.put, uA, uB, uC]) | ((refine wlG (ex_eql _ 3 3 (.tmp 67) (.const (.int .i64 0)) rfl .i64 (r : Int) 0 rfl rfl _ e4.out) ?_); simp only [Act.put, uA, uB, uC]) | ((refine wlG (ex_eql _ 3 3 (.tmp 117) (.const (.int .i64 0)) rfl .i64 (r : Int) 0 rfl rfl _ e4.out) ?_); simp only [Act.put, uA, uB, uC]))
  refine (hu.out w1).mono ?_
  rintro e w2 ⟨⟨x, At, ct, Ap, cp, ok, rfl, hs, _, hT, hP⟩, k2⟩
  obtain ⟨c, hcd⟩ : ∃ c : Int, (if ok then (0 : Int) else 270) = c := ⟨_, rfl⟩
  have hcc : Hd ((ok = true ∧ c = 0) ∨ (ok = false ∧ c = 270)) := ⟨by cases ok <;> simp at hcd <;> subst hcd <;> simp⟩
  rw [hcd]
  replace hs := Hd.mk hs
  obtain ⟨xd, xk, xt, xn, xp⟩ := x
  simp only at hT hP
  have k3 : KZ w2 (w2.alloc (.cells #[.int .i64 xd, .string ⟨xk.toArray⟩, .slice At xt.length ct, .int .i64 xn, .slice Ap xp.length cp] 24)).drew := ((Kp.refl _ w2).alloc _).drew
  have T3 : Hd (BsF (w.heap.size + 2) (w2.alloc (.cells #[.int .i64 xd, .string ⟨xk.toArray⟩, .slice At xt.length ct, .int .i64 xn, .slice Ap xp.length cp] 24)).drew (.slice At xt.length ct) (ints xt)) := ⟨(BsF.mono hT X1.out.lt).keepS k3 (fun _ h => h.elim)⟩
  have P3 : Hd (BsF (w.heap.size + 2) (w2.alloc (.cells #[.int .i64 xd, .string ⟨xk.toArray⟩, .slice At xt.length ct, .int .i64 xn, .slice Ap xp.length cp] 24)).drew (.slice Ap xp.length cp) (ints xp)) := ⟨(BsF.mono hP X1.out.lt).keepS k3 (fun _ h => h.elim)⟩
  have X3 : Hd (Rx w.heap.size w (w2.alloc (.cells #[.int .i64 xd, .string ⟨xk.toArray⟩, .slice At xt.length ct, .int .i64 xn, .slice Ap xp.length cp] 24)).drew [.int .i64 pages, .int .i64 cache, .slice F n cF, .slice S m cS, .int .i64 cap, .slice X r cA] Z6) := ⟨X1.out.keep (k2.th k3)⟩
  have hnew : Hd ((w2.alloc (.cells #[.int .i64 xd, .string ⟨xk.toArray⟩, .slice At xt.length ct, .int .i64 xn, .slice Ap xp.length cp] 24)).rangeAt w2.heap.size 0 [.int .i64 xd, .string ⟨xk.toArray⟩, .slice At xt.length ct, .int .i64 xn, .slice Ap xp.length cp]) := ⟨row5n _ _ _ _ _ _ _⟩
  clear c3 c5 k2 k3 X1 hu hc hcd hT hP
  go_wp2_with (first | (simp only [Bool.false_eq_true, if_false]))
  have hS : Hd ((fun W : World => W.cell? ⟨w.heap.size, 5, none⟩ = some (.slice X r cA) ∧ W.rangeAt w2.heap.size 0 [.int .i64 xd, .string ⟨xk.toArray⟩, .slice At xt.length ct, .int .i64 xn, .slice Ap xp.length cp]) (w2.alloc (.cells #[.int .i64 xd, .string ⟨xk.toArray⟩, .slice At xt.length ct, .int .i64 xn, .slice Ap xp.length cp] 24)).drew) := ⟨⟨X3.out.bx.cell 5, rangez hnew.out (Kp.refl _ _).drew⟩⟩
  refine rn_begin (fun W : World => W.cell? ⟨w.heap.size, 5, none⟩ = some (.slice X r cA) ∧ W.rangeAt w2.heap.size 0 [.int .i64 xd, .string ⟨xk.toArray⟩, .slice At xt.length ct, .int .i64 xn, .slice Ap xp.length cp]) (List.range 8) (by kernel_rfl) ?_
  refine rnT [2, 3, 6, 8] 1 149 (.pointer (some ⟨w.heap.size, 5, none⟩)) (erF 53 3 _ rfl w.heap.size 0 0 5 5 Tryz.underlying53 rfl) hS.out ?_
  refine rnT [3, 6, 8] 2 150 (.slice X r cA) (fun W hW => ex_load W 51 _ _ rfl ⟨w.heap.size, 5, none⟩ U51 rfl rfl hW.1) hS.out ?_
  refine rnT [5, 6, 8] 4 152 (.agg ([.int .i64 xd, .string ⟨xk.toArray⟩, .slice At xt.length ct, .int .i64 xn, .slice Ap xp.length cp] : List Value).toArray) (fun W hW => ex_load_mid W 24 _ rfl w2.heap.size 0 rfl _ hW.2 Tryz.underlying24 rfl (by kernel_rfl)) hS.out ?_
  simp only [Act.put, uA, uB, uC]
  have k3 : Hd (KZ w (w2.alloc (.cells #[.int .i64 xd, .string ⟨xk.toArray⟩, .slice At xt.length ct, .int .i64 xn, .slice Ap xp.length cp] 24)).drew) := ⟨X3.out.kp⟩
  refine rn_grow (i := 0) (k := 3) (j := 5) (m := 6) 51 24 5 80 rfl rfl rfl rfl rfl rfl rfl rfl rfl rfl rfl rfl 150 152 rfl rfl rfl rfl (by kernel_rfl) (by kernel_rfl) (by kernel_rfl) (by kernel_rfl) (by kernel_rfl) (by kernel_rfl) (by kernel_rfl) (by kernel_rfl)
   U51 info24b rfl (by decide) (by decide) zero24' (.slice X r cA) r cs rfl (hO.out.keep k3.out) hz.out hf1.out (by omega) [.int .i64 xd, .string ⟨xk.toArray⟩, .slice At xt.length ct, .int .i64 xn, .slice Ap xp.length cp]
   (fun b' W he => ex_buildSlice1 W 51 24 _ rfl U51 [.int .i64 xd, .string ⟨xk.toArray⟩, .slice At xt.length ct, .int .i64 xn, .slice Ap xp.length cp] (by rw [he]; rfl) Z5 (zero24' _) info24s rfl (by simp) (by simp)) rfl (by simp [Value.oneCell'])
   (fun W hk => ⟨hk.see hS.out.1 id, rangez hS.out.2 hk⟩) ?_
  intro Vi Vk Vj V w4 ho k4
  have X4 := Hd.mk (X3.out.keep k4)
  have T4 := Hd.mk (T3.out.keepS k4 (fun _ h => h.elim))
  have P4 := Hd.mk (P3.out.keepS k4 (fun _ h => h.elim))
  have ho4 : Hd (Or (w.heap.size + 2) 24 5 w4 V (r + 1) (cs ++ [.int .i64 xd, .string ⟨xk.toArray⟩, .slice At xt.length ct, .int .i64 xn, .slice Ap xp.length cp])) := ⟨ho.mono X3.out.lt⟩
  have hS4 : Hd ((fun W : World => W.cell? ⟨w.heap.size, 5, none⟩ = some (.slice X r cA) ∧ W.rangeAt w2.heap.size 0 [.int .i64 xd, .string ⟨xk.toArray⟩, .slice At xt.length ct, .int .i64 xn, .slice Ap xp.length cp]) w4) := ⟨⟨k4.see hS.out.1 id, rangez hS.out.2 k4⟩⟩
  clear ho k4 X3 hS k3 hnew T3 P3
  have hS := hS4
  clear hS4
  obtain ⟨A9, c9, e9, _⟩ := ho4.out.slice
  subst e9
  simp only [Act.put, uA, uB, uC]
  refine rnT [8] 7 155 (.pointer (some ⟨w.heap.size, 5, none⟩)) (erF 53 3 _ rfl w.heap.size 0 0 5 5 Tryz.underlying53 rfl) hS.out ?_
  simp only [Act.put, uA, uB, uC]
  refine rn_one (i := 8) (dst := none) rfl (by kernel_rfl) rfl rfl (fun K hK => ?_)
  refine ow_store 51 _ _ (.slice A9 (r + 1) c9) (.slice X r cA) rfl ⟨w.heap.size, 5, none⟩ info51s rfl rfl rfl rfl (X4.out.bx.cell 5) (X4.out.bx.free 5) ?_
  refine hK _ _ (fun h => (by cases h)) ?_
  clear hK K
  simp only [Act.put, uA, uB, uC]
  have k5 : Kp (· = w.heap.size) w4 (w4.setCell ⟨w.heap.size, 5, none⟩ (.slice A9 (r + 1) c9)) := (Kp.refl _ w4).setCell _ _ (.inr rfl)
  have o5 : Hd (Or (w.heap.size + 2) 24 5 (w4.setCell ⟨w.heap.size, 5, none⟩ (.slice A9 (r + 1) c9)) (.slice A9 (r + 1) c9) (r + 1) (cs ++ [.int .i64 xd, .string ⟨xk.toArray⟩, .slice At xt.length ct, .int .i64 xn, .slice Ap xp.length cp])) := ⟨ho4.out.keepS k5 (fun k hk e => by have := ho4.out.new k hk; omega)⟩
  have T5 : Hd (BsF (w.heap.size + 2) (w4.setCell ⟨w.heap.size, 5, none⟩ (.slice A9 (r + 1) c9)) (.slice At xt.length ct) (ints xt)) := ⟨T4.out.keepS k5 (fun k e => by omega)⟩
  have P5 : Hd (BsF (w.heap.size + 2) (w4.setCell ⟨w.heap.size, 5, none⟩ (.slice A9 (r + 1) c9)) (.slice Ap xp.length cp) (ints xp)) := ⟨P4.out.keepS k5 (fun k e => by omega)⟩
  have X5 : Hd (Rx w.heap.size w (w4.setCell ⟨w.heap.size, 5, none⟩ (.slice A9 (r + 1) c9)) [.int .i64 pages, .int .i64 cache, .slice F n cF, .slice S m cS, .int .i64 cap, .slice A9 (r + 1) c9] Z6) := ⟨X4.out.put 5 (.slice A9 (r + 1) c9)⟩
  clear X4 ho4 k5 T4 P4
  refine rn_done (by kernel_rfl) ?_ _
  generalize w4.setCell ⟨w.heap.size, 5, none⟩ (.slice A9 (r + 1) c9) = w5 at *
  go_wp2_with fail
  have X6 := Hd.mk (X5.out.keep (Kp.refl _ w5).drew)
  have o6 := Hd.mk (o5.out.keep (Kp.refl _ w5).drew)
  have T6 := Hd.mk (T5.out.keepS (Kp.refl (fun _ => False) w5).drew (fun _ h => h.elim))
  have P6 := Hd.mk (P5.out.keepS (Kp.refl (fun _ => False) w5).drew (fun _ h => h.elim))
  have hS : Hd ((fun W : World => Blk W w.heap.size [.int .i64 pages, .int .i64 cache, .slice F n cF, .slice S m cS, .int .i64 cap, .slice A9 (r + 1) c9] 53) w5.drew) := ⟨X6.out.bx⟩
  have el : Hd ((ac ++ [(⟨xd, xk, xt, xn, xp⟩ : A)]).length = r + 1) := ⟨by simp [hr.out]⟩
  clear X5 o5 T5 P5
  refine rn_begin (fun W : World => Blk W w.heap.size [.int .i64 pages, .int .i64 cache, .slice F n cF, .slice S m cS, .int .i64 cap, .slice A9 (r + 1) c9] 53) (List.range 11) (by kernel_rfl) ?_
  rcases hcc.out with ⟨rfl, rfl⟩ | ⟨rfl, rfl⟩
  ·obtain ⟨q4, hq4⟩ : ∃ q, Hd (decide (((r + 1 : Nat) : Int) ≤ 400) = q) := ⟨_, ⟨rfl⟩⟩
   refine rnA 0 156 (.agg ([.int .i64 pages, .int .i64 cache, .slice F n cF, .slice S m cS, .int .i64 cap, .slice A9 (r + 1) c9] : List Value).toArray) (fun W hW => ex_load_mid W 53 _ rfl w.heap.size 0 rfl _ (hW.range 0 6) Tryz.underlying53 rfl (by kernel_rfl)) hS.out ?_
   refine rnA 1 157 (.int .i64 (0)) (rnM rfl rfl) hS.out ?_
   refine rnA 2 158 (.bool true) (fun W hW => ex_eql W 26 _ _ _ rfl .i64 0 0 rfl rfl true (by decide)) hS.out ?_
   simp only [Act.put, uA, uB, uC]
   refine rnA 3 159 (.bool true) (rnM rfl rfl) hS.out ?_
   refine rnA 4 160 (.pointer (some ⟨w.heap.size, 5, none⟩)) (erF 53 3 _ rfl w.heap.size 0 0 5 5 Tryz.underlying53 rfl) hS.out ?_
   refine rnA 5 161 (.slice A9 (r + 1) c9) (fun W hW => ex_load W 51 _ _ rfl ⟨w.heap.size, 5, none⟩ U51 rfl rfl (Blk.cell hW 5)) hS.out ?_
   simp only [Act.put, uA, uB, uC]
   refine rnA 6 162 (.int .i64 ((r + 1 : Nat) : Int)) (fun W hW => ex_len W 51 _ rfl U51 _ (r + 1) c9 rfl) hS.out ?_
   refine rnA 7 163 (.bool q4) (fun W hW => ex_leq W 3 3 _ _ rfl .i64 ((r + 1 : Nat) : Int) 400 rfl rfl q4 hq4.out) hS.out ?_
   refine rnA 8 164 (.bool q4) (fun W hW => ex_pick W _ _ _ rfl true _ rfl rfl) hS.out ?_
   simp only [Act.put, uA, uB, uC]
   refine rn_one (i := 9) (dst := none) rfl (by kernel_rfl) rfl rfl (fun K hK => ?_); refine ow_store_mid 53 _ _ rfl (w.heap.size + 1) 0 53 Z6 [.int .i64 pages, .int .i64 cache, .slice F n cF, .slice S m cS, .int .i64 cap, .slice A9 (r + 1) c9] rfl rfl X6.out.ou (Nat.le_refl 6) (by kernel_rfl) six_one ?_; intro wz hbz hkz _; have hSz : Hd ((fun W : World => Blk W w.heap.size [.int .i64 pages, .int .i64 cache, .slice F n cF, .slice S m cS, .int .i64 cap, .slice A9 (r + 1) c9] 53) wz) := ⟨hkz.keeps hS.out (by show ¬ w.heap.size = w.heap.size + 1; omega)⟩; refine hK _ _ (fun _ => hSz.out) ?_; clear hK K hS; simp only [Act.put, uA, uB, uC]; obtain ⟨g1, g2⟩ := X6.out.give rfl hbz hkz rfl; replace g1 := Hd.mk g1; replace g2 := Hd.mk g2; have kz := Hd.mk hkz; clear hbz hkz; refine rn_one (i := 10) (dst := some 7) rfl (by kernel_rfl) rfl rfl (fun K hK => ?_); refine ow_run (ex_assign _ _ (.bool q4) rfl rfl) ?_; refine hK _ _ (fun _ => hSz.out) ?_; clear hK K; simp only [Act.put, uA, uB, uC]; refine rn_done (by kernel_rfl) ?_ _; go_wp2_with fail; refine bodyPost_ret (results_2s rfl _ _ (w.heap.size + 1) [.int .i64 pages, .int .i64 cache, .slice F n cF, .slice S m cS, .int .i64 cap, .slice A9 (r + 1) c9] _ rfl rfl g1.out rfl) rfl ?_
   refine ⟨⟨⟨pages, cache, fl, ss, cap, ac ++ [⟨xd, xk, xt, xn, xp⟩]⟩, F, S, A9, cF, cS, c9, q4, by simp [rowS, hm.out, hn.out, hr.out], fun h => ?_, fun h ⟨s1, h2⟩ => ?_⟩, g2.out⟩
   ·refine ⟨hy.out _ (hs.out.yes rfl).1 (hs.out.yes rfl).2 (by have := hq4.out; rw [h] at this; have := of_decide_eq_true this; omega), cs ++ [.int .i64 xd, .string ⟨xk.toArray⟩, .slice At xt.length ct, .int .i64 xn, .slice Ap xp.length cp], ?_⟩
    have rr := hfold.out _ _ ⟨xd, xk, xt, xn, xp⟩ _ _ _ _ g2.out (o6.out.keepS kz.out (fun k hk e => by have := o6.out.new k hk; omega)) (T6.out.keepS kz.out (fun k e => by omega)) (P6.out.keepS kz.out (fun k e => by omega))
    rw [← el.out, ← hn.out, ← hm.out] at rr
    exact rr
   ·have := (hno.out s1 h2).2
    have e := hq4.out
    rw [h] at e
    have := of_decide_eq_false e
    omega
  ·skip
   refine rnA 0 156 (.agg ([.int .i64 pages, .int .i64 cache, .slice F n cF, .slice S m cS, .int .i64 cap, .slice A9 (r + 1) c9] : List Value).toArray) (fun W hW => ex_load_mid W 53 _ rfl w.heap.size 0 rfl _ (hW.range 0 6) Tryz.underlying53 rfl (by kernel_rfl)) hS.out ?_
   refine rnA 1 157 (.int .i64 (270)) (rnM rfl rfl) hS.out ?_
   refine rnA 2 158 (.bool false) (fun W hW => ex_eql W 26 _ _ _ rfl .i64 270 0 rfl rfl false (by decide)) hS.out ?_
   simp only [Act.put, uA, uB, uC]
   refine rnA 3 159 (.bool false) (rnM rfl rfl) hS.out ?_
   refine rnP 4 160 hS.out ?_
   refine rnP 5 161 hS.out ?_
   simp only [Act.put, uA, uB, uC]
   refine rnP 6 162 hS.out ?_
   refine rnP 7 163 hS.out ?_
   refine rnA 8 164 (.bool false) (fun W hW => ex_pick W _ _ _ rfl false _ rfl rfl) hS.out ?_
   simp only [Act.put, uA, uB, uC]
   refine rn_one (i := 9) (dst := none) rfl (by kernel_rfl) rfl rfl (fun K hK => ?_); refine ow_store_mid 53 _ _ rfl (w.heap.size + 1) 0 53 Z6 [.int .i64 pages, .int .i64 cache, .slice F n cF, .slice S m cS, .int .i64 cap, .slice A9 (r + 1) c9] rfl rfl X6.out.ou (Nat.le_refl 6) (by kernel_rfl) six_one ?_; intro wz hbz hkz _; have hSz : Hd ((fun W : World => Blk W w.heap.size [.int .i64 pages, .int .i64 cache, .slice F n cF, .slice S m cS, .int .i64 cap, .slice A9 (r + 1) c9] 53) wz) := ⟨hkz.keeps hS.out (by show ¬ w.heap.size = w.heap.size + 1; omega)⟩; refine hK _ _ (fun _ => hSz.out) ?_; clear hK K hS; simp only [Act.put, uA, uB, uC]; obtain ⟨g1, g2⟩ := X6.out.give rfl hbz hkz rfl; replace g1 := Hd.mk g1; replace g2 := Hd.mk g2; have kz := Hd.mk hkz; clear hbz hkz; refine rn_one (i := 10) (dst := some 7) rfl (by kernel_rfl) rfl rfl (fun K hK => ?_); refine ow_run (ex_assign _ _ (.bool false) rfl rfl) ?_; refine hK _ _ (fun _ => hSz.out) ?_; clear hK K; simp only [Act.put, uA, uB, uC]; refine rn_done (by kernel_rfl) ?_ _; go_wp2_with fail; refine bodyPost_ret (results_2s rfl _ _ (w.heap.size + 1) [.int .i64 pages, .int .i64 cache, .slice F n cF, .slice S m cS, .int .i64 cap, .slice A9 (r + 1) c9] _ rfl rfl g1.out rfl) rfl ?_
   refine ⟨⟨⟨pages, cache, fl, ss, cap, ac ++ [⟨xd, xk, xt, xn, xp⟩]⟩, F, S, A9, cF, cS, c9, false, by simp [rowS, hm.out, hn.out, hr.out], fun h => (by cases h), fun _ ⟨s1, h2⟩ => ?_⟩, g2.out⟩
   obtain ⟨⟨y, hy1, hy2⟩, _⟩ := hno.out s1 h2
   exact hs.out.no rfl y hy1 hy2)
theorem pi0 (t : List UInt8) (w w5 : World) (hw : w5 = ((((w.alloc (.cells #[.int .i64 0, .int .i64 0, .slice none 0 0, .slice none 0 0, .int .i64 0, .slice none 0 0] 53)).alloc (.cells #[.int .i64 0] 3)).alloc (.cells #[.int .i64 0] 26)).alloc
  (.cells #[.int .i64 8, .int .i64 2, .slice none 0 0, .slice none 0 0, .int .i64 1, .slice none 0 0, .int .i64 0] 108)).alloc (.cells #[.pointer (some ⟨w.heap.size + 1 + 1 + 1, 0, none⟩)] 106)) :
  Pi w.heap.size w [] (w5.alloc (.cells #[.string ⟨t.toArray⟩] 9)) ∧ (w5.alloc (.cells #[.string ⟨t.toArray⟩] 9)).heap[w.heap.size + 5]? = some (.cells #[.string ⟨t.toArray⟩] 9 (0, 0)) := by
 subst hw
 have b2 := ((((((Blk.new w Z6 53).alloc (.cells #[.int .i64 0] 3)).alloc (.cells #[.int .i64 0] 26)).alloc (.cells #[.int .i64 8, .int .i64 2, .slice none 0 0, .slice none 0 0, .int .i64 1, .slice none 0 0, .int .i64 0] 108)).alloc (.cells #[.pointer (some ⟨w.heap.size + 1 + 1 + 1, 0, none⟩)] 106)).alloc (.cells #[.string ⟨t.toArray⟩] 9))
 have b3 := (((((Blk.new (w.alloc (.cells Z6.toArray 53)) [.int .i64 0] 3)).alloc (.cells #[.int .i64 0] 26)).alloc (.cells #[.int .i64 8, .int .i64 2, .slice none 0 0, .slice none 0 0, .int .i64 1, .slice none 0 0, .int .i64 0] 108)).alloc (.cells #[.pointer (some ⟨w.heap.size + 1 + 1 + 1, 0, none⟩)] 106)).alloc (.cells #[.string ⟨t.toArray⟩] 9)
 have b4 := ((((Blk.new ((w.alloc (.cells Z6.toArray 53)).alloc (.cells #[.int .i64 0] 3)) [.int .i64 0] 26)).alloc (.cells #[.int .i64 8, .int .i64 2, .slice none 0 0, .slice none 0 0, .int .i64 1, .slice none 0 0, .int .i64 0] 108)).alloc (.cells #[.pointer (some ⟨w.heap.size + 1 + 1 + 1, 0, none⟩)] 106)).alloc (.cells #[.string ⟨t.toArray⟩] 9)
 have bR := (((Blk.new (((w.alloc (.cells Z6.toArray 53)).alloc (.cells #[.int .i64 0] 3)).alloc (.cells #[.int .i64 0] 26)) [.int .i64 8, .int .i64 2, .slice none 0 0, .slice none 0 0, .int .i64 1, .slice none 0 0, .int .i64 0] 108)).alloc (.cells #[.pointer (some ⟨w.heap.size + 1 + 1 + 1, 0, none⟩)] 106)).alloc (.cells #[.string ⟨t.toArray⟩] 9)
 have b5 := (Blk.new ((((w.alloc (.cells Z6.toArray 53)).alloc (.cells #[.int .i64 0] 3)).alloc (.cells #[.int .i64 0] 26)).alloc (.cells #[.int .i64 8, .int .i64 2, .slice none 0 0, .slice none 0 0, .int .i64 1, .slice none 0 0, .int .i64 0] 108)) [.pointer (some ⟨w.heap.size + 1 + 1 + 1, 0, none⟩)] 106).alloc (.cells #[.string ⟨t.toArray⟩] 9)
 have bn := (Blk.new (((((w.alloc (.cells Z6.toArray 53)).alloc (.cells #[.int .i64 0] 3)).alloc (.cells #[.int .i64 0] 26)).alloc (.cells #[.int .i64 8, .int .i64 2, .slice none 0 0, .slice none 0 0, .int .i64 1, .slice none 0 0, .int .i64 0] 108)).alloc (.cells #[.pointer (some ⟨w.heap.size + 1 + 1 + 1, 0, none⟩)] 106)) [.string ⟨t.toArray⟩] 9)
 simp only [size_alloc] at b3 b4 bR b5 bn
 refine ⟨⟨b2, b3, b4, b5, ⟨s0, _, _, _, _, ⟨bR, Or.nil _ _ _ _, Or.nil _ _ _ _, Or.nil _ _ _ _, fun i a h => by simp [s0] at h, by simp [Value.ownBlock], by simp [Value.ownBlock], by simp [Value.ownBlock], fun k h => by simp [Value.ownBlock] at h, fun k h => by simp [Value.ownBlock] at h, fun k h => by simp [Value.ownBlock] at h⟩, .start⟩, ((((((Kp.refl _ w).alloc _).alloc _).alloc _).alloc _).alloc _).alloc _, rfl, by simp [size_alloc]⟩, bn⟩
section
variable {F : Fence} {m : Nat} {P : Program} {ops : Array Oper} {rest : List Oper} {o : Oper} {a : Act} {Q : Exit → Act → World → Prop}
theorem oi_skip {w w' : World} {K : Act → World → Prop} (hF : ∀ f, F.fn f) (hd : ∀ c, o.op ≠ .defer c) (hr : (execOp a.eval o).run P w = .ok .skip w') (h : K (a.put o.dst undef) w') : o.wpIn F m P a w K Q := by
 unfold Oper.wpIn
 refine ⟨fun f _ => hF f, ?_⟩
 rw [Oper.semAt_plain F _ _ hd, hr]
 exact h
theorem li_skip {w w' : World} (hF : ∀ f, F.fn f) (hd : ∀ c, o.op ≠ .defer c) (hg : o.guard = none) (hr : (execOp a.eval o).run P w = .ok .skip w') (h : wpListIn F m P ops Q rest (a.put o.dst undef) w') : wpListIn F m P ops Q (o :: rest) a w :=
 wpListIn_plain hg fun _ hK => oi_skip hF hd hr (hK _ _ h)
end
theorem lnGo_le : ∀ (r cur : List UInt8), ∀ l ∈ lnGo cur r, l.length ≤ cur.length + r.length
 | [], cur, l, h => by
  simp only [lnGo] at h
  split at h
  ·cases h
  ·rw [List.mem_singleton.1 h]; simp
 | c :: r, cur, l, h => by
  simp only [lnGo] at h
  split at h
  ·rcases List.mem_cons.1 h with rfl | h
   ·simp
   ·have := lnGo_le r [] l h
    simp at this ⊢
    omega
  ·have := lnGo_le r (cur ++ [c]) l h
   simp at this ⊢
   omega
theorem saidFrom_mem : ∀ (L : List (List UInt8)) (n : Nat) (x : Nat × List UInt8), x ∈ saidFrom n L → x.2 ∈ L
 | [], n, x, h => by simp [saidFrom] at h
 | l :: L, n, x, h => by
  simp only [saidFrom] at h
  split at h
  ·rcases List.mem_cons.1 h with rfl | h
   ·exact List.mem_cons_self
   ·exact List.mem_cons_of_mem _ (saidFrom_mem L _ x h)
  ·exact List.mem_cons_of_mem _ (saidFrom_mem L _ x h)
theorem said_le {t : List UInt8} {pre : List (Nat × List UInt8)} {x : Nat × List UInt8} (h : pre ++ [x] <+: saidS t) : x.2.length ≤ t.length := by
 have h1 : x ∈ saidS t := h.subset (by simp)
 have := lnGo_le t [] x.2 (saidFrom_mem _ _ x h1)
 simpa using this
structure Pb (B : Nat) (w0 W W1 : World) : Prop where
 z2 : Blk W1 B Z6 53
 z3 : Blk W1 (B + 1) [.int .i64 0] 3
 z4 : Blk W1 (B + 1 + 1) [.int .i64 0] 26
 p5 : Blk W1 (B + 1 + 1 + 1 + 1) [.pointer (some ⟨B + 1 + 1 + 1, 0, none⟩)] 106
 kp : KZ w0 W1
 sz : w0.heap.size = B
 le : B + 6 ≤ W1.heap.size
 oth : KeepsOthers W W1
 bn : W1.heap[B + 5]? = W.heap[B + 5]?
theorem Pi.bo {B : Nat} {w0 W W1 : World} {pre : List (Nat × List UInt8)} (h : Pi B w0 pre W) (g : Bo (B + 6) (B + 1 + 1 + 1) W W1) : Pb B w0 W W1 := by
 have le := h.le
 have st : ∀ k, k < B + 6 → k ≠ B + 1 + 1 + 1 → W1.heap[k]? = W.heap[k]? := fun k h1 h2 => g.kp.block k (by omega) (by omega)
 refine ⟨(st _ (by omega) (by omega)).trans h.z2, (st _ (by omega) (by omega)).trans h.z3, (st _ (by omega) (by omega)).trans h.z4, (st _ (by omega) (by omega)).trans h.p5, h.kp.andThen g.kp (fun k h1 h2 => ?_), h.sz, Nat.le_trans le g.size, g.oth, st _ (by omega) (by omega)⟩
 rw [h.sz] at h1
 rcases h2 with h2 | h2 <;> omega
theorem kp_oth {W W1 : World} (h : KZ W W1) : KeepsOthers W W1 := ⟨h.size, fun k o hk hc => by rw [h.block k (Array.getElem?_eq_some_iff.1 hk).1 id]; exact hk⟩
theorem Pb.keep {B : Nat} {w0 W W1 W2 : World} (h : Pb B w0 W W1) (k : KZ W1 W2) : Pb B w0 W W2 :=
 ⟨k.keeps h.z2 id, k.keeps h.z3 id, k.keeps h.z4 id, k.keeps h.p5 id, h.kp.th k, h.sz, Nat.le_trans h.le k.size, h.oth.trans (kp_oth k), (k.block _ (by have := h.le; omega) id).trans h.bn⟩
theorem Pb.zero {B : Nat} {w0 W W1 W2 : World} (h : Pb B w0 W W1) (hb : Blk W2 B (splice Z6 0 Z6) 53) (k : Kp (· = B) W1 W2) (hs : W2.heap.size = W1.heap.size) : Pb B w0 W W2 := by
 have le := h.le
 have st : ∀ k, k < W1.heap.size → k ≠ B → W2.heap[k]? = W1.heap[k]? := fun i h1 h2 => k.block i h1 h2
 refine ⟨hb, (st _ (by omega) (by omega)).trans h.z3, (st _ (by omega) (by omega)).trans h.z4, (st _ (by omega) (by omega)).trans h.p5, h.kp.andThen k (fun i h1 h2 => ?_), h.sz, by omega, h.oth.trans ⟨k.size, fun i o hk hc => ?_⟩, (st _ (by omega) (by omega)).trans h.bn⟩
 ·rw [h.sz] at h1; omega
 ·rw [st i (Array.getElem?_eq_some_iff.1 hk).1 (fun e => by
   subst e
   rw [h.z2] at hk
   cases hk
   cases hc)]
  exact hk
theorem Pb.put {B : Nat} {w0 W W1 : World} {t : List UInt8} {pre : List (Nat × List UInt8)} {x : Nat × List UInt8} (h : Pb B w0 W W1) {s : Sc} (hx : pre ++ [x] <+: saidS t) (hp : Pfx pre pre.length s) (hn : ¬ ∃ s1, Step pre.length s x.2 s1) :
  (KeepsOthers W ((W1.setCell ⟨B + 1, 0, none⟩ (.int .i64 (x.1 : Int))).setCell ⟨B + 1 + 1, 0, none⟩ (.int .i64 270)) ∧ ((W1.setCell ⟨B + 1, 0, none⟩ (.int .i64 (x.1 : Int))).setCell ⟨B + 1 + 1, 0, none⟩ (.int .i64 270)).heap[B + 5]? = W.heap[B + 5]?) ∧
  Px B w0 t pre ((W1.setCell ⟨B + 1, 0, none⟩ (.int .i64 (x.1 : Int))).setCell ⟨B + 1 + 1, 0, none⟩ (.int .i64 270)) := by
 refine ⟨⟨(h.oth.trans (KeepsOthers.setCell _ _ _)).trans (KeepsOthers.setCell _ _ _), ?_⟩, ⟨⟨x, s, hx, hp, hn, ?_⟩, ?_, ?_, ?_, h.sz⟩⟩
 ·rw [Below.heap_setCell _ _ _ _ (by show B + 5 ≠ B + 1 + 1; omega), Below.heap_setCell _ _ _ _ (by show B + 5 ≠ B + 1; omega)]
  exact h.bn
 ·exact (h.z3.set 0 _).other _ _ (by show B + 1 ≠ B + 1 + 1; omega)
 ·exact (h.z2.other _ _ (by show B ≠ B + 1; omega)).other _ _ (by show B ≠ B + 1 + 1; omega)
 ·exact (h.z4.other _ _ (by show B + 1 + 1 ≠ B + 1; omega)).set 0 _
 ·exact (h.kp.setCell _ _ (.inl (by rw [h.sz]; show B ≤ B + 1; omega))).setCell _ _ (.inl (by rw [h.sz]; show B ≤ B + 1 + 1; omega))
theorem Pb.next {B : Nat} {w0 W W1 : World} {pre : List (Nat × List UInt8)} {x : Nat × List UInt8} (h : Pb B w0 W W1) {s s1 : Sc} {VF VS VA : Value} {cs : List Value} (hp : Pfx pre pre.length s) (h1 : Step pre.length s x.2 s1) (hr : Rd (B + 6) (B + 1 + 1 + 1) W1 s1 (stg (pre.length + 1) s1) VF VS VA cs) : Pi B w0 (pre ++ [x]) W1 := by
 refine ⟨h.z2, h.z3, h.z4, h.p5, ⟨s1, VF, VS, VA, cs, ?_, ?_⟩, h.kp, h.sz, h.le⟩
 ·rw [List.length_append, List.length_singleton]; exact hr
 ·rw [List.length_append, List.length_singleton]
  exact .more (hp.lift [x]) (by rw [List.getElem?_append_right (Nat.le_refl _)]; simp; rfl) h1
theorem li_z53 {F : Fence} {m : Nat} {ops : Array Oper} {rest : List Oper} {o : Oper} {a : Act} {Q : Exit → Act → World → Prop} {B : Nat} {w0 W W1 : World} (hF : ∀ f, F.fn f) (hd : ∀ c, o.op ≠ .defer c) (hg : o.guard = none) {x y : Operand} (ho : o.op = .store 53 x y) (hx : a.eval x = .pointer (some ⟨B, 0, none⟩)) (hy : a.eval y = .agg Z6.toArray)
  (h : Pb B w0 W W1) (hn : ∀ w2, Pb B w0 W w2 → wpListIn F m Tryz.prog ops Q rest (a.put o.dst undef) w2) : wpListIn F m Tryz.prog ops Q (o :: rest) a W1 := by
 obtain ⟨w2, h1, h2, h3, h4⟩ := ex_store_mid (P := Tryz.prog) W1 53 x y ho B 0 53 Z6 Z6 hx hy h.z2 (by decide) (by kernel_rfl) (by
  intro v hv
  simp only [Z6, List.mem_cons, List.not_mem_nil, or_false] at hv
  rcases hv with rfl | rfl | rfl | rfl | rfl | rfl <;> rfl)
 exact li_skip hF hd hg h1 (hn w2 (h.zero h2 h3 h4))
theorem take_step {B : Nat} {w0 W : World} {pre : List (Nat × List UInt8)} {x : Nat × List UInt8} (h : Pi B w0 pre W) (hE : Ev w0) (hx : x.2.length < 70000) :
  Calls Tryz.prog 75 #[.pointer (some ⟨B + 1 + 1 + 1, 0, none⟩), .string ⟨x.2.toArray⟩] W fun e W1 => ∃ q : Bool, e = .returned (.bool q) ∧ Pb B w0 W W1 ∧ (q = false → ∃ s, Pfx pre pre.length s ∧ ¬ ∃ s1, Step pre.length s x.2 s1) ∧
   (q = true → ∃ (s s1 : Sc) (F S X : Option Addr) (cF cS cA : Nat) (cs : List Value), Pfx pre pre.length s ∧ Pre pre.length s x.2 s1 ∧ s1.small ∧ Rd (B + 6) (B + 1 + 1 + 1) W1 s1 (stg (pre.length + 1) s1) (.slice F s1.fl.length cF) (.slice S s1.ss.length cS) (.slice X s1.ac.length cA) cs ∧ ScR W1 s1 F cF S cS X cA) := by
 obtain ⟨s, VF, VS, VA, cs, hR, hP⟩ := h.rd
 have inv := hP.inv
 refine (takes_at (hE.keep h.kp) hR inv.low inv.ok.fewR h.le x.2 hx).mono ?_
 rintro e W1 ⟨⟨q, rfl, hno, hyes⟩, hbo⟩
 refine ⟨q, rfl, h.bo hbo, fun hq => ⟨s, hP, fun ⟨s1, h1⟩ => hno hq ⟨s1, h1.1⟩⟩, fun hq => ?_⟩
 obtain ⟨s1, VF', VS', VA', cs', h1, h2⟩ := hyes hq
 obtain ⟨F, S, X, cF, cS, cA, rfl, rfl, rfl, h3⟩ := h2.scr
 exact ⟨s, s1, F, S, X, cF, cS, cA, cs', hP, h1, h1.small inv.ok hx, h2, h3⟩
theorem kp_putObj (W : World) (D : Nat) (o : Obj) : Kp (fun k => some D = some k) W (W.putObj D o) := (Kp.refl _ W).grown (grownBy_putObj' W D o) (fun k e => .inr e)
theorem Pb.left {B : Nat} {w0 W W2 : World} (h : Pb B w0 W W2) {D : Nat} (hD : B + 6 ≤ D) (hd : W.heap[D]? = some (.deferred (some []))) (n c : Int) :
  ((W2.setCell ⟨B + 1, 0, none⟩ (.int .i64 n)).setCell ⟨B + 1 + 1, 0, none⟩ (.int .i64 c)).heap[D]? = some (.deferred (some [])) ∧
  (((W2.setCell ⟨B + 1, 0, none⟩ (.int .i64 n)).setCell ⟨B + 1 + 1, 0, none⟩ (.int .i64 c)).putObj D (.deferred none)).rangeAt B 0 Z6 ∧
  (((W2.setCell ⟨B + 1, 0, none⟩ (.int .i64 n)).setCell ⟨B + 1 + 1, 0, none⟩ (.int .i64 c)).putObj D (.deferred none)).cell? ⟨B + 1, 0, none⟩ = some (.int .i64 n) ∧
  (((W2.setCell ⟨B + 1, 0, none⟩ (.int .i64 n)).setCell ⟨B + 1 + 1, 0, none⟩ (.int .i64 c)).putObj D (.deferred none)).cell? ⟨B + 1 + 1, 0, none⟩ = some (.int .i64 c) ∧
  KZ w0 (((W2.setCell ⟨B + 1, 0, none⟩ (.int .i64 n)).setCell ⟨B + 1 + 1, 0, none⟩ (.int .i64 c)).putObj D (.deferred none)) := by
 have k1 : KZ w0 ((W2.setCell ⟨B + 1, 0, none⟩ (.int .i64 n)).setCell ⟨B + 1 + 1, 0, none⟩ (.int .i64 c)) := (h.kp.setCell _ _ (.inl (by rw [h.sz]; show B ≤ B + 1; omega))).setCell _ _ (.inl (by rw [h.sz]; show B ≤ B + 1 + 1; omega))
 have z2 : Blk ((W2.setCell ⟨B + 1, 0, none⟩ (.int .i64 n)).setCell ⟨B + 1 + 1, 0, none⟩ (.int .i64 c)) B Z6 53 := (h.z2.other _ _ (by show B ≠ B + 1; omega)).other _ _ (by show B ≠ B + 1 + 1; omega)
 have z3 : Blk ((W2.setCell ⟨B + 1, 0, none⟩ (.int .i64 n)).setCell ⟨B + 1 + 1, 0, none⟩ (.int .i64 c)) (B + 1) [.int .i64 n] 3 := (h.z3.set 0 _).other _ _ (by show B + 1 ≠ B + 1 + 1; omega)
 have z4 : Blk ((W2.setCell ⟨B + 1, 0, none⟩ (.int .i64 n)).setCell ⟨B + 1 + 1, 0, none⟩ (.int .i64 c)) (B + 1 + 1) [.int .i64 c] 26 := (h.z4.other _ _ (by show B + 1 + 1 ≠ B + 1; omega)).set 0 _
 have kD := kp_putObj ((W2.setCell ⟨B + 1, 0, none⟩ (.int .i64 n)).setCell ⟨B + 1 + 1, 0, none⟩ (.int .i64 c)) D (.deferred none)
 have ne : ∀ k, k < B + 6 → ¬ some D = some k := fun k hk e => by cases e; omega
 refine ⟨?_, ?_, Blk.cell (kD.keeps z3 (ne _ (by omega))) 0, Blk.cell (kD.keeps z4 (ne _ (by omega))) 0, k1.andThen kD (fun i hi e => by rw [h.sz] at hi; cases e; omega)⟩
 ·rw [Below.heap_setCell _ _ _ _ (by show D ≠ B + 1 + 1; omega), Below.heap_setCell _ _ _ _ (by show D ≠ B + 1; omega)]
  exact h.oth.same _ _ hd rfl
 ·exact Blk.range (kD.keeps z2 (ne _ (by omega))) 0 6
theorem Pi.good {B : Nat} {w0 W W2 : World} {t : List UInt8} (h : Pi B w0 (saidS t) W) {s : Sc} {VF VS VA : Value} {cs vs : List Value} (hR : Rd (B + 6) (B + 1 + 1 + 1) W s (stg (saidS t).length s) VF VS VA cs) (hvs : vs.length = 6) (hb : Blk W2 B (splice Z6 0 vs) 53) (hk : Kp (· = B) W W2) (hs : W2.heap.size = W.heap.size)
  {D : Nat} (hD : B + 6 ≤ D) (hd : W.heap[D]? = some (.deferred (some []))) :
  ((W2.setCell ⟨B + 1, 0, none⟩ (.int .i64 0)).setCell ⟨B + 1 + 1, 0, none⟩ (.int .i64 0)).heap[D]? = some (.deferred (some [])) ∧
  (((W2.setCell ⟨B + 1, 0, none⟩ (.int .i64 0)).setCell ⟨B + 1 + 1, 0, none⟩ (.int .i64 0)).putObj D (.deferred none)).rangeAt B 0 vs ∧
  (((W2.setCell ⟨B + 1, 0, none⟩ (.int .i64 0)).setCell ⟨B + 1 + 1, 0, none⟩ (.int .i64 0)).putObj D (.deferred none)).cell? ⟨B + 1, 0, none⟩ = some (.int .i64 0) ∧
  (((W2.setCell ⟨B + 1, 0, none⟩ (.int .i64 0)).setCell ⟨B + 1 + 1, 0, none⟩ (.int .i64 0)).putObj D (.deferred none)).cell? ⟨B + 1 + 1, 0, none⟩ = some (.int .i64 0) ∧
  Rd (B + 6) (B + 1 + 1 + 1) (((W2.setCell ⟨B + 1, 0, none⟩ (.int .i64 0)).setCell ⟨B + 1 + 1, 0, none⟩ (.int .i64 0)).putObj D (.deferred none)) s (stg (saidS t).length s) VF VS VA cs ∧
  KZ w0 (((W2.setCell ⟨B + 1, 0, none⟩ (.int .i64 0)).setCell ⟨B + 1 + 1, 0, none⟩ (.int .i64 0)).putObj D (.deferred none)) := by
 have hsp : splice Z6 0 vs = vs := by
  unfold splice
  simp [Z6, hvs]
 rw [hsp] at hb
 have le := h.le
 have hDl : D < W.heap.size := blk_lt hd
 let S : Nat → Prop := fun k => k = B ∨ k = B + 1 ∨ k = B + 1 + 1 ∨ k = D
 have kA : Kp S W (((W2.setCell ⟨B + 1, 0, none⟩ (.int .i64 0)).setCell ⟨B + 1 + 1, 0, none⟩ (.int .i64 0)).putObj D (.deferred none)) := by
  have k1 : Kp S W W2 := hk.mono (fun k _ e => .inl e)
  have k2 := (k1.setCell ⟨B + 1, 0, none⟩ (.int .i64 0) (.inr (.inr (.inl rfl)))).setCell ⟨B + 1 + 1, 0, none⟩ (.int .i64 0) (.inr (.inr (.inr (.inl rfl))))
  exact k2.andThen (kp_putObj _ D _) (fun i hi e => by cases e; exact .inr (.inr (.inr rfl)))
 have z2 : Blk ((W2.setCell ⟨B + 1, 0, none⟩ (.int .i64 0)).setCell ⟨B + 1 + 1, 0, none⟩ (.int .i64 0)) B vs 53 := (Blk.other hb _ _ (by show B ≠ B + 1; omega)).other _ _ (by show B ≠ B + 1 + 1; omega)
 have z3' : Blk W2 (B + 1) [.int .i64 0] 3 := hk.keeps h.z3 (by show ¬ B + 1 = B; omega)
 have z4' : Blk W2 (B + 1 + 1) [.int .i64 0] 26 := hk.keeps h.z4 (by show ¬ B + 1 + 1 = B; omega)
 have z3 : Blk ((W2.setCell ⟨B + 1, 0, none⟩ (.int .i64 0)).setCell ⟨B + 1 + 1, 0, none⟩ (.int .i64 0)) (B + 1) [.int .i64 0] 3 := (z3'.set 0 _).other _ _ (by show B + 1 ≠ B + 1 + 1; omega)
 have z4 : Blk ((W2.setCell ⟨B + 1, 0, none⟩ (.int .i64 0)).setCell ⟨B + 1 + 1, 0, none⟩ (.int .i64 0)) (B + 1 + 1) [.int .i64 0] 26 := (z4'.other _ _ (by show B + 1 + 1 ≠ B + 1; omega)).set 0 _
 have kD := kp_putObj ((W2.setCell ⟨B + 1, 0, none⟩ (.int .i64 0)).setCell ⟨B + 1 + 1, 0, none⟩ (.int .i64 0)) D (.deferred none)
 have ne : ∀ k, k < B + 6 → ¬ some D = some k := fun k hk e => by cases e; omega
 refine ⟨?_, ?_, Blk.cell (kD.keeps z3 (ne _ (by omega))) 0, Blk.cell (kD.keeps z4 (ne _ (by omega))) 0, ?_, ?_⟩
 ·rw [Below.heap_setCell _ _ _ _ (by show D ≠ B + 1 + 1; omega), Below.heap_setCell _ _ _ _ (by show D ≠ B + 1; omega), hk.block D hDl (by omega)]
  exact hd
 ·have := Blk.range (kD.keeps z2 (ne _ (by omega))) 0 6
  rw [List.drop_zero, List.take_of_length_le (by omega)] at this
  exact this
 ·refine hR.keepX kA ⟨fun k hs => ?_, fun k j u hs hc => ?_⟩
  ·rcases hs with rfl | rfl | rfl | rfl
   ·exact .inl ⟨by omega, by omega⟩
   ·exact .inl ⟨by omega, by omega⟩
   ·exact .inl ⟨by omega, by omega⟩
   ·exact .inr (fun cur t e => by rw [hd] at e; cases e)
  ·rcases hs with rfl | rfl | rfl | rfl
   ·rw [h.z2.cell] at hc
    have hm := List.mem_of_getElem? hc
    simp [Z6] at hm
   ·rw [h.z3.cell] at hc
    have hm := List.mem_of_getElem? hc
    simp at hm
   ·rw [h.z4.cell] at hc
    have hm := List.mem_of_getElem? hc
    simp at hm
   ·obtain ⟨o', h3, h4⟩ := cells_of_cell hc
    rw [hd] at h3
    cases h3
    cases h4
 ·exact h.kp.andThen kA (fun i hi hs => by
   rw [h.sz] at hi
   rcases hs with rfl | rfl | rfl | rfl <;> omega)
theorem Px.left {B : Nat} {w0 W : World} {t : List UInt8} {pre : List (Nat × List UInt8)} (h : Px B w0 t pre W) (ht : t.length ≤ 65536) {D : Nat} (hD : B + 6 ≤ D) (hd : W.heap[D]? = some (.deferred (some []))) :
  ∃ n : Int, (W.putObj D (.deferred none)).rangeAt B 0 Z6 ∧ (W.putObj D (.deferred none)).cell? ⟨B + 1, 0, none⟩ = some (.int .i64 n) ∧ (W.putObj D (.deferred none)).cell? ⟨B + 1 + 1, 0, none⟩ = some (.int .i64 270) ∧
   PaR t w0 (W.putObj D (.deferred none)) (.returned (.tuple #[.agg Z6.toArray, .int .i64 n, .int .i64 270])) := by
 have g := h.grow (grownBy_putObj' W D (.deferred none)) (fun r e => by cases e; exact ⟨hD, _, hd, rfl⟩)
 obtain ⟨x, s, h1, h2, h3, h4⟩ := g.ex
 have hr := g.z2.range 0 6
 refine ⟨x.1, hr, h4.cell 0, g.z4.cell 0, ⟨z0, none, none, none, 0, 0, 0, x.1, 270, rfl, scr_z0 _, .inr ⟨by omega, .inl ⟨pre.length, s, x.1, x.2, ?_, ?_, h3, rfl, rfl, rfl⟩⟩⟩, g.kp⟩
 ·obtain ⟨r, hr⟩ := h1
  rw [← hr, List.append_assoc]
  exact h2.lift _
 ·obtain ⟨r, hr⟩ := h1
  rw [← hr, List.append_assoc, List.getElem?_append_right (Nat.le_refl _)]
  simp
theorem li_s53 {F : Fence} {m : Nat} {ops : Array Oper} {rest : List Oper} {o : Oper} {a : Act} {Q : Exit → Act → World → Prop} {B : Nat} {W : World} (hF : ∀ f, F.fn f) (hd : ∀ c, o.op ≠ .defer c) (hg : o.guard = none) {x y : Operand} (ho : o.op = .store 53 x y) (hx : a.eval x = .pointer (some ⟨B, 0, none⟩)) (vs : List Value) (hy : a.eval y = .agg vs.toArray)
  (hl : vs.length = 6) (h1 : ∀ v ∈ vs, v.oneCell' = true) (hb : Blk W B Z6 53) (hn : ∀ w2, Blk w2 B (splice Z6 0 vs) 53 → Kp (· = B) W w2 → w2.heap.size = W.heap.size → wpListIn F m Tryz.prog ops Q rest (a.put o.dst undef) w2) : wpListIn F m Tryz.prog ops Q (o :: rest) a W := by
 obtain ⟨w2, h1, h2, h3, h4⟩ := ex_store_mid (P := Tryz.prog) W 53 x y ho B 0 53 Z6 vs hx hy hb (by rw [hl]; decide) (by rw [hl]; kernel_rfl) h1
 exact li_skip hF hd hg h1 (hn w2 h2 h3 h4)
theorem Rd.scr2 {b R : Nat} {w : World} {s : Sc} {st : Int} {F S X : Option Addr} {cF cS cA : Nat} {cs : List Value} (h : Rd b R w s st (.slice F s.fl.length cF) (.slice S s.ss.length cS) (.slice X s.ac.length cA) cs) : ScR w s F cF S cS X cA := ⟨or_fr h.rf, h.rs.wos, h.ar⟩
end Go.Proofs.YtkcechpaeilaeaaGreatDoor
