/- ScriptPrints' walk. -/
import Derived.Test.YtkcechpaeilaeaaGreatDoorPd
import Derived.Test.YtkcechpaeilaeaaGreatDoorPe
import Derived.Test.YtkcechpaeilaeaaGreatDoorV5
namespace Go.Proofs.YtkcechpaeilaeaaGreatDoor
open Go.RowKit
set_option linter.unusedVariables false
set_option linter.unusedSimpArgs false
set_option maxRecDepth 100000
def Sc.wf (s : Sc) : Prop := (∀ x ∈ s.fl, (-2147483648 ≤ x.f ∧ x.f ≤ 2147483647) ∧ (-2147483648 ≤ x.t ∧ x.t ≤ 2147483647)) ∧ ∀ l ∈ s.ss, l.length ≤ 2000000
def Sc.few (s : Sc) : Prop := s.fl.length ≤ 40 ∧ s.ss.length ≤ 60 ∧ s.ac.length ≤ 500
theorem Sc.few.small {s : Sc} (h : s.few) (hw : s.wf) : s.small := ⟨hw.1, hw.2, by have := h.2.2; omega⟩
def ScB (s : Sc) (F : Option Addr) (f cF : Nat) (S : Option Addr) (n cS : Nat) (X : Option Addr) (a cA : Nat) : Prop := s.fl.length = f ∧ s.ss.length = n ∧ s.ac.length = a
theorem cor_z {p : Prop} {z : Int} (hz : (p ∧ z = 0) ∨ (¬ p ∧ z = 270)) {w w' : World} {e : Ending} (h : CoR 270 p w w' e) : e = .returned (.int .i64 z) ∧ Kp (fun _ => False) w w' := by
  obtain ⟨⟨rfl, h1⟩ | ⟨rfl, h1⟩, h2⟩ := h <;> rcases hz with ⟨g, rfl⟩ | ⟨g, rfl⟩
  · exact ⟨rfl, h2⟩
  · exact absurd h1 g
  · exact absurd g h1
  · exact ⟨rfl, h2⟩
theorem bor_z {p : Prop} {q : Bool} (hq : q = true ↔ p) {w w' : World} {e : Ending} (h : BoR p w w' e) : e = .returned (.bool q) ∧ Kp (fun _ => False) w w' := by
  obtain ⟨⟨b, rfl, h1⟩, h2⟩ := h
  have : b = q := by
    cases b <;> cases q
    · rfl
    · exact absurd (h1.2 (hq.1 rfl)) (by simp)
    · exact absurd (hq.2 (h1.1 rfl)) (by simp)
    · rfl
  subst this
  exact ⟨rfl, h2⟩
theorem pr_z {s : Sc} {t : List UInt8} {c : Int} (h0 : PrOut s t c) {w w' : World} {e : Ending} (h : PrR s w w' e) : e = .returned (.tuple #[.string ⟨t.toArray⟩, .int .i64 c]) ∧ Kp (fun _ => False) w w' := by
  obtain ⟨⟨t', c', rfl, h1⟩, h2⟩ := h
  obtain ⟨rfl, rfl⟩ := h0.same h1
  exact ⟨rfl, h2⟩
theorem pr_ex (s : Sc) : ∃ t c, PrOut s t c := by
  by_cases h : scOk s
  · by_cases h2 : 65536 < (ptext s).length
    · exact ⟨[], 3, .inr (.inl ⟨h, h2, rfl, rfl⟩)⟩
    · exact ⟨ptext s, 0, .inr (.inr ⟨h, by omega, rfl, rfl⟩)⟩
  · exact ⟨[], 270, .inl ⟨h, rfl, rfl⟩⟩
set_option maxHeartbeats 16000000 in
theorem scriptprints_at {w : World} (hE : Ev w) {F1 S1 A1 F2 S2 A2 : Option Addr} {cF1 cS1 cA1 cF2 cS2 cA2 : Nat} (x y : Sc) (wx : x.wf) (wy : y.wf) (hX : ScR w x F1 cF1 S1 cS1 A1 cA1) (hY : ScR w y F2 cF2 S2 cS2 A2 cA2) :
    Calls Tryz.prog 5 #[.agg #[.int .i64 x.pages, .int .i64 x.cache, .slice F1 x.fl.length cF1, .slice S1 x.ss.length cS1, .int .i64 x.cap, .slice A1 x.ac.length cA1], .agg #[.int .i64 y.pages, .int .i64 y.cache, .slice F2 y.fl.length cF2, .slice S2 y.ss.length cS2, .int .i64 y.cap, .slice A2 y.ac.length cA2]] w fun e w' => e = .returned (.bool true) ∧ Kp (fun _ => False) w w' := by
  have hsm1 := Hd.mk (fun u (hu : Kp (fun _ => False) w u) => small_at x (hX.keep hu))
  have hsm2 := Hd.mk (fun u (hu : Kp (fun _ => False) w u) => small_at y (hY.keep hu))
  obtain ⟨tx, cx, hpo⟩ := pr_ex x
  have hpr := Hd.mk (fun u (hu : Kp (fun _ => False) w u) (hf : x.few) => (print_at x (hf.small wx) (hE.keep hu) (hX.keep hu)).mono (fun e w' h => pr_z hpo h))
  have hrp := Hd.mk (fun u (hu : Kp (fun _ => False) w u) (hf : x.few) => (rprint_at x (hf.small wx) (hX.keep hu)).mono (fun e w' h => pr_z hpo h))
  obtain ⟨z, hz⟩ : ∃ z : Int, (scOk x ∧ z = 0) ∨ (¬ scOk x ∧ z = 270) := by
    by_cases h : scOk x
    · exact ⟨0, .inl ⟨h, rfl⟩⟩
    · exact ⟨270, .inr ⟨h, rfl⟩⟩
  have hck := Hd.mk (fun u (hu : Kp (fun _ => False) w u) (hf : x.few) => (scheck_at x (hf.small wx) (hX.keep hu)).mono (fun e w' h => cor_z hz h))
  have hrc := Hd.mk (fun u (hu : Kp (fun _ => False) w u) (hf : x.few) => (rscheck_at x (hf.small wx) (hX.keep hu)).mono (fun e w' h => cor_z hz h))
  obtain ⟨q, hq⟩ : ∃ q : Bool, q = true ↔ x = y := by
    by_cases h : x = y
    · exact ⟨true, fun _ => h, fun _ => rfl⟩
    · exact ⟨false, fun h => (by cases h), fun h2 => absurd h2 h⟩
  have hsa := Hd.mk (fun u (hu : Kp (fun _ => False) w u) (hf : x.few) => (scsame_at x y (by have := hf.1; omega) (by have := hf.2.1; omega) (by have := hf.2.2; omega) (hX.keep hu) (hY.keep hu)).mono (fun e w' h => bor_z hq h))
  have hrs := Hd.mk (fun u (hu : Kp (fun _ => False) w u) (hf : x.few) => (rscsame_at x y (by have := hf.1; omega) (by have := hf.2.1; omega) (by have := hf.2.2; omega) (hX.keep hu) (hY.keep hu)).mono (fun e w' h => bor_z hq h))
  have hsx := Hd.mk (fun u (hu : Kp (fun _ => False) w u) (hf : x.few) => (scsame_at x x (by have := hf.1; omega) (by have := hf.2.1; omega) (by have := hf.2.2; omega) (hX.keep hu) (hX.keep hu)).mono (fun e w' h => bor_z (q := true) ⟨fun _ => rfl, fun _ => rfl⟩ h))
  obtain ⟨f1, hf1⟩ : ∃ n, x.fl.length = n := ⟨_, rfl⟩
  obtain ⟨f2, hf2⟩ : ∃ n, y.fl.length = n := ⟨_, rfl⟩
  obtain ⟨s1, hs1⟩ : ∃ n, x.ss.length = n := ⟨_, rfl⟩
  obtain ⟨s2, hs2⟩ : ∃ n, y.ss.length = n := ⟨_, rfl⟩
  obtain ⟨a1, ha1⟩ : ∃ n, x.ac.length = n := ⟨_, rfl⟩
  obtain ⟨a2, ha2⟩ : ∃ n, y.ac.length = n := ⟨_, rfl⟩
  obtain ⟨p1, hp1⟩ : ∃ n, x.pages = n := ⟨_, rfl⟩
  obtain ⟨p2, hp2⟩ : ∃ n, y.pages = n := ⟨_, rfl⟩
  obtain ⟨h1, hh1⟩ : ∃ n, x.cache = n := ⟨_, rfl⟩
  obtain ⟨h2, hh2⟩ : ∃ n, y.cache = n := ⟨_, rfl⟩
  obtain ⟨c1, hc1⟩ : ∃ n, x.cap = n := ⟨_, rfl⟩
  obtain ⟨c2, hc2⟩ : ∃ n, y.cap = n := ⟨_, rfl⟩
  have hfew : Hd (f1 ≤ 40 ∧ s1 ≤ 60 ∧ a1 ≤ 500 → x.few) := ⟨fun h => ⟨by omega, by omega, by omega⟩⟩
  rw [hf1, hs1, ha1, hp1, hh1, hc1] at hsm1 hpr hrp hck hrc hsx
  rw [hf2, hs2, ha2, hp2, hh2, hc2] at hsm2
  rw [hf1, hs1, ha1, hp1, hh1, hc1, hf2, hs2, ha2, hp2, hh2, hc2] at hsa hrs
  rw [hf1, hs1, ha1, hp1, hh1, hc1, hf2, hs2, ha2, hp2, hh2, hc2]
  clear hf1 hs1 ha1 hp1 hh1 hc1 hf2 hs2 ha2 hp2 hh2 hc2 hX hY wx wy hpo hz hq
  replace hE := Hd.mk hE
  obtain ⟨w1, hw1⟩ : ∃ w1, w.alloc (.cells #[.int .i64 p1, .int .i64 h1, .slice F1 f1 cF1, .slice S1 s1 cS1, .int .i64 c1, .slice A1 a1 cA1] 53) = w1 := ⟨_, rfl⟩
  have hz1 : w1.heap.size = w.heap.size + 1 := by rw [← hw1, size_alloc']
  obtain ⟨w2, hw2⟩ : ∃ w2, w1.alloc (.cells #[.int .i64 p2, .int .i64 h2, .slice F2 f2 cF2, .slice S2 s2 cS2, .int .i64 c2, .slice A2 a2 cA2] 53) = w2 := ⟨_, rfl⟩
  have k02 : Hd (Kp (fun _ => False) w w2) := ⟨by rw [← hw2, ← hw1]; exact ((Kp.refl _ w).alloc _).alloc _⟩
  obtain ⟨B2, hB2⟩ : ∃ B, Hd (w.heap.size + 1 = B) := ⟨_, ⟨rfl⟩⟩
  obtain ⟨B1, hB1⟩ : ∃ B, Hd (w.heap.size = B) := ⟨_, ⟨rfl⟩⟩
  have hbx : Hd (∀ w', Kp (fun _ => False) w2 w' → w'.rangeAt B1 0 [.int .i64 p1, .int .i64 h1, .slice F1 f1 cF1, .slice S1 s1 cS1, .int .i64 c1, .slice A1 a1 cA1] ∧ w'.rangeAt B2 0 [.int .i64 p2, .int .i64 h2, .slice F2 f2 cF2, .slice S2 s2 cS2, .int .i64 c2, .slice A2 a2 cA2]) := ⟨fun w' hk => by
    have h2 : Kp (fun _ => False) w1 w' := ((by rw [← hw2]; exact (Kp.refl _ w1).alloc _ : Kp (fun _ => False) w1 w2)).andThen hk (fun _ _ h => h)
    rw [← hw1] at h2
    rw [← hB2.out, ← hB1.out]
    refine ⟨(box6 _ _ _ _ _ _ _ _ _ h2).2.1, ?_⟩
    rw [← hz1]
    rw [← hw2] at hk
    exact (box6 _ _ _ _ _ _ _ _ _ hk).2.1⟩
  have hwq : Hd ((w.alloc (.cells #[.int .i64 p1, .int .i64 h1, .slice F1 f1 cF1, .slice S1 s1 cS1, .int .i64 c1, .slice A1 a1 cA1] 53)).alloc (.cells #[.int .i64 p2, .int .i64 h2, .slice F2 f2 cF2, .slice S2 s2 cS2, .int .i64 c2, .slice A2 a2 cA2] 53) = w2) := ⟨by rw [hw1, hw2]⟩
  clear hw1 hw2 hz1
  have hl2 := Hd.mk (live_at (hE.out.keep k02.out))
  go_enter Tryz.func5, Tryz.ntmps5
  go_wp2_with (first | (rewrite [hwq.out, hB2.out, hB1.out]))
  refine hl2.out.mono ?_
  rintro e w3 ⟨rfl, k3⟩
  have K23 := Hd.mk k3
  have K3 := Hd.mk (k02.out.andThen k3 (fun _ _ h => h))
  obtain ⟨r1, r2⟩ := hbx.out w3 k3
  replace r1 := Hd.mk r1
  replace r2 := Hd.mk r2
  have hs1 := Hd.mk (hsm1.out w3 K3.out)
  clear k3 hl2
  go_wp2_with (first | (simp only [Bool.false_eq_true, if_false]) | ((with_reducible refine wl_runG ?hw (ex_load_mid _ 53 (.tmp 2) rfl B1 0 rfl [.int .i64 p1, .int .i64 h1, .slice F1 f1 cF1, .slice S1 s1 cS1, .int .i64 c1, .slice A1 a1 cA1] r1.out Tryz.underlying53 rfl (by kernel_rfl)) ?_); (case hw => rfl); simp only [Act.put, spA, spB, spC]))
  refine hs1.out.mono ?_
  rintro e w4 ⟨⟨b, rfl, hb⟩, k4⟩
  have K24 := Hd.mk (K23.out.andThen k4 (fun _ _ h => h))
  have K4 := Hd.mk (K3.out.andThen k4 (fun _ _ h => h))
  clear r1 r2
  obtain ⟨r1, r2⟩ := hbx.out w4 K24.out
  replace r1 := Hd.mk r1
  replace r2 := Hd.mk r2
  have hs2 := Hd.mk (hsm2.out w4 K4.out)
  have hl4 := Hd.mk (live_at (hE.out.keep K4.out))
  clear k4 hs1
  cases b
  · clear hb
    go_wp2_with (simp only [Bool.false_eq_true, if_false])
    refine hl4.out.mono ?_
    rintro e w5 ⟨rfl, k5⟩
    have K5 := Hd.mk (K4.out.andThen k5 (fun _ _ h => h))
    clear k5
    go_wp2_with fail
    go_ret
    exact ⟨rfl, K5.out⟩
  replace hb := Hd.mk (hfew.out (hb rfl))
  clear hl4
  go_wp2_with (first | (simp only [Bool.false_eq_true, if_false]) | ((with_reducible refine wl_runG ?hw (ex_load_mid _ 53 (.tmp 3) rfl B2 0 rfl [.int .i64 p2, .int .i64 h2, .slice F2 f2 cF2, .slice S2 s2 cS2, .int .i64 c2, .slice A2 a2 cA2] r2.out Tryz.underlying53 rfl (by kernel_rfl)) ?_); (case hw => rfl); simp only [Act.put, spA, spB, spC]))
  refine hs2.out.mono ?_
  rintro e w5 ⟨⟨b, rfl, _⟩, k5⟩
  have K25 := Hd.mk (K24.out.andThen k5 (fun _ _ h => h))
  have K5 := Hd.mk (K4.out.andThen k5 (fun _ _ h => h))
  clear r1 r2
  obtain ⟨r1, r2⟩ := hbx.out w5 K25.out
  replace r1 := Hd.mk r1
  replace r2 := Hd.mk r2
  have hl5 := Hd.mk (live_at (hE.out.keep K5.out))
  have hp5 := Hd.mk (hpr.out w5 K5.out hb.out)
  clear k5 hs2
  cases b
  · go_wp2_with (simp only [Bool.false_eq_true, if_false])
    refine hl5.out.mono ?_
    rintro e w6 ⟨rfl, k6⟩
    have K6 := Hd.mk (K5.out.andThen k6 (fun _ _ h => h))
    clear k6
    go_wp2_with fail
    go_ret
    exact ⟨rfl, K6.out⟩
  clear hl5
  go_wp2_with (first | (simp only [Bool.false_eq_true, if_false]) | (with_reducible refine wl_load_mid rfl 53 (.tmp 2) rfl B1 0 rfl [.int .i64 p1, .int .i64 h1, .slice F1 f1 cF1, .slice S1 s1 cS1, .int .i64 c1, .slice A1 a1 cA1] r1.out Tryz.underlying53 rfl (by kernel_rfl) ?_))
  refine hp5.out.mono ?_
  rintro e w6 ⟨rfl, k6⟩
  have K26 := Hd.mk (K25.out.andThen k6 (fun _ _ h => h))
  have K6 := Hd.mk (K5.out.andThen k6 (fun _ _ h => h))
  clear r1 r2
  obtain ⟨r1, r2⟩ := hbx.out w6 K26.out
  replace r1 := Hd.mk r1
  replace r2 := Hd.mk r2
  have hp6 := Hd.mk (hrp.out w6 K6.out hb.out)
  clear k6 hp5
  go_wp2_with (first | (simp only [Bool.false_eq_true, if_false]) | (with_reducible refine wl_load_mid rfl 53 (.tmp 2) rfl B1 0 rfl [.int .i64 p1, .int .i64 h1, .slice F1 f1 cF1, .slice S1 s1 cS1, .int .i64 c1, .slice A1 a1 cA1] r1.out Tryz.underlying53 rfl (by kernel_rfl) ?_))
  refine hp6.out.mono ?_
  rintro e w7 ⟨rfl, k7⟩
  have KW := Hd.mk (K26.out.andThen k7 (fun _ _ h => h))
  have K7 := Hd.mk (K6.out.andThen k7 (fun _ _ h => h))
  clear r1 r2 k7 hp6
  go_wp2_with fail
  obtain ⟨wk, hwk⟩ : ∃ wk, Hd (w7 = wk) := ⟨_, ⟨rfl⟩⟩
  rw [hwk.out] at KW K7 ⊢
  have hS : Hd ((fun W : World => Kp (fun _ => False) wk W) wk.drew) := ⟨(Kp.refl _ _).drew⟩
  refine rn_begin (fun W : World => Kp (fun _ => False) wk W) (List.range 30) (by kernel_rfl) ?_
  refine rn_take (i := 0) (dst := some 32) (v := .agg ([.int .i64 p1, .int .i64 h1, .slice F1 f1 cF1, .slice S1 s1 cS1, .int .i64 c1, .slice A1 a1 cA1] : List Value).toArray) rfl (by kernel_rfl) (fun _ _ _ h => h) rfl rfl (fun W hW => ex_load_mid W 53 _ rfl B1 0 rfl _ (hbx.out W (KW.out.andThen hW (fun _ _ h => h))).1 Tryz.underlying53 rfl (by kernel_rfl)) hS.out ?_
  simp only [Act.put, spA, spB, spC]
  refine rn_take (i := 2) (dst := some 34) (v := .agg ([.int .i64 p1, .int .i64 h1, .slice F1 f1 cF1, .slice S1 s1 cS1, .int .i64 c1, .slice A1 a1 cA1] : List Value).toArray) rfl (by kernel_rfl) (fun _ _ _ h => h) rfl rfl (fun W hW => ex_load_mid W 53 _ rfl B1 0 rfl _ (hbx.out W (KW.out.andThen hW (fun _ _ h => h))).1 Tryz.underlying53 rfl (by kernel_rfl)) hS.out ?_
  simp only [Act.put, spA, spB, spC]
  generalize wk.drew = u0 at *
  refine rn_one (i := 1) (dst := some 33) rfl (by kernel_rfl) rfl rfl (fun K hK => ?_)
  refine ow_call 26 _ _ rfl Tryz.func26 (by kernel_rfl) (by kernel_rfl) [.agg #[.int .i64 p1, .int .i64 h1, .slice F1 f1 cF1, .slice S1 s1 cS1, .int .i64 c1, .slice A1 a1 cA1]] rfl (hck.out _ (K7.out.andThen hS.out (fun _ _ h => h)) hb.out) ?_
  rintro e u1 ⟨rfl, k5⟩
  have hS1 : Hd ((fun W : World => Kp (fun _ => False) wk W) u1) := ⟨hS.out.andThen k5 (fun _ _ h => h)⟩
  refine ⟨_, rfl, hK _ _ (fun _ => hS1.out) ?_⟩
  clear hK K hS k5
  have hS := hS1
  clear hS1
  simp only [Act.put, spA, spB, spC]
  refine rn_one (i := 3) (dst := some 35) rfl (by kernel_rfl) rfl rfl (fun K hK => ?_)
  refine ow_call 27 _ _ rfl Tryz.func27 (by kernel_rfl) (by kernel_rfl) [.agg #[.int .i64 p1, .int .i64 h1, .slice F1 f1 cF1, .slice S1 s1 cS1, .int .i64 c1, .slice A1 a1 cA1]] rfl (hrc.out _ (K7.out.andThen hS.out (fun _ _ h => h)) hb.out) ?_
  rintro e u2 ⟨rfl, k5⟩
  have hS1 : Hd ((fun W : World => Kp (fun _ => False) wk W) u2) := ⟨hS.out.andThen k5 (fun _ _ h => h)⟩
  refine ⟨_, rfl, hK _ _ (fun _ => hS1.out) ?_⟩
  clear hK K hS k5
  have hS := hS1
  clear hS1
  simp only [Act.put, spA, spB, spC]
  refine rn_take (i := 4) (dst := some 36) (v := .bool true) rfl (by kernel_rfl) (fun _ _ _ h => h) rfl rfl (fun W hW => ex_eql W 26 _ _ _ rfl .i64 z z rfl rfl true (decide_eq_true rfl)) hS.out ?_
  simp only [Act.put, spA, spB, spC]
  refine rn_take (i := 5) (dst := some 37) (v := .bool true) rfl (by kernel_rfl) (fun _ _ _ h => h) rfl rfl (fun W hW => ex_move W _ _ rfl rfl) hS.out ?_
  simp only [Act.put, spA, spB, spC]
  refine rn_take (i := 6) (dst := some 38) (v := .agg ([.int .i64 p1, .int .i64 h1, .slice F1 f1 cF1, .slice S1 s1 cS1, .int .i64 c1, .slice A1 a1 cA1] : List Value).toArray) rfl (by kernel_rfl) (fun _ _ _ h => h) rfl rfl (fun W hW => ex_load_mid W 53 _ rfl B1 0 rfl _ (hbx.out W (KW.out.andThen hW (fun _ _ h => h))).1 Tryz.underlying53 rfl (by kernel_rfl)) hS.out ?_
  simp only [Act.put, spA, spB, spC]
  refine rn_take (i := 7) (dst := some 39) (v := .agg ([.int .i64 p2, .int .i64 h2, .slice F2 f2 cF2, .slice S2 s2 cS2, .int .i64 c2, .slice A2 a2 cA2] : List Value).toArray) rfl (by kernel_rfl) (fun _ _ _ h => h) rfl rfl (fun W hW => ex_load_mid W 53 _ rfl B2 0 rfl _ (hbx.out W (KW.out.andThen hW (fun _ _ h => h))).2 Tryz.underlying53 rfl (by kernel_rfl)) hS.out ?_
  simp only [Act.put, spA, spB, spC]
  refine rn_take (i := 9) (dst := some 41) (v := .agg ([.int .i64 p1, .int .i64 h1, .slice F1 f1 cF1, .slice S1 s1 cS1, .int .i64 c1, .slice A1 a1 cA1] : List Value).toArray) rfl (by kernel_rfl) (fun _ _ _ h => h) rfl rfl (fun W hW => ex_load_mid W 53 _ rfl B1 0 rfl _ (hbx.out W (KW.out.andThen hW (fun _ _ h => h))).1 Tryz.underlying53 rfl (by kernel_rfl)) hS.out ?_
  simp only [Act.put, spA, spB, spC]
  refine rn_take (i := 10) (dst := some 42) (v := .agg ([.int .i64 p2, .int .i64 h2, .slice F2 f2 cF2, .slice S2 s2 cS2, .int .i64 c2, .slice A2 a2 cA2] : List Value).toArray) rfl (by kernel_rfl) (fun _ _ _ h => h) rfl rfl (fun W hW => ex_load_mid W 53 _ rfl B2 0 rfl _ (hbx.out W (KW.out.andThen hW (fun _ _ h => h))).2 Tryz.underlying53 rfl (by kernel_rfl)) hS.out ?_
  simp only [Act.put, spA, spB, spC]
  refine rn_one (i := 8) (dst := some 40) rfl (by kernel_rfl) rfl rfl (fun K hK => ?_)
  refine ow_call 28 _ _ rfl Tryz.func28 (by kernel_rfl) (by kernel_rfl) [.agg #[.int .i64 p1, .int .i64 h1, .slice F1 f1 cF1, .slice S1 s1 cS1, .int .i64 c1, .slice A1 a1 cA1], .agg #[.int .i64 p2, .int .i64 h2, .slice F2 f2 cF2, .slice S2 s2 cS2, .int .i64 c2, .slice A2 a2 cA2]] rfl (hsa.out _ (K7.out.andThen hS.out (fun _ _ h => h)) hb.out) ?_
  rintro e u3 ⟨rfl, k5⟩
  have hS1 : Hd ((fun W : World => Kp (fun _ => False) wk W) u3) := ⟨hS.out.andThen k5 (fun _ _ h => h)⟩
  refine ⟨_, rfl, hK _ _ (fun _ => hS1.out) ?_⟩
  clear hK K hS k5
  have hS := hS1
  clear hS1
  simp only [Act.put, spA, spB, spC]
  refine rn_one (i := 11) (dst := some 43) rfl (by kernel_rfl) rfl rfl (fun K hK => ?_)
  refine ow_call 29 _ _ rfl Tryz.func29 (by kernel_rfl) (by kernel_rfl) [.agg #[.int .i64 p1, .int .i64 h1, .slice F1 f1 cF1, .slice S1 s1 cS1, .int .i64 c1, .slice A1 a1 cA1], .agg #[.int .i64 p2, .int .i64 h2, .slice F2 f2 cF2, .slice S2 s2 cS2, .int .i64 c2, .slice A2 a2 cA2]] rfl (hrs.out _ (K7.out.andThen hS.out (fun _ _ h => h)) hb.out) ?_
  rintro e u4 ⟨rfl, k5⟩
  have hS1 : Hd ((fun W : World => Kp (fun _ => False) wk W) u4) := ⟨hS.out.andThen k5 (fun _ _ h => h)⟩
  refine ⟨_, rfl, hK _ _ (fun _ => hS1.out) ?_⟩
  clear hK K hS k5
  have hS := hS1
  clear hS1
  simp only [Act.put, spA, spB, spC]
  refine rn_take (i := 12) (dst := some 44) (v := .bool true) rfl (by kernel_rfl) (fun _ _ _ h => h) rfl rfl (fun W hW => ex_eqlB W 4 _ _ _ rfl Tryz.underlying4 _ _ rfl rfl true (by simp)) hS.out ?_
  simp only [Act.put, spA, spB, spC]
  refine rn_take (i := 13) (dst := some 45) (v := .bool true) rfl (by kernel_rfl) (fun _ _ _ h => h) rfl rfl (fun W hW => ex_pick W _ _ _ rfl true _ rfl rfl) hS.out ?_
  simp only [Act.put, spA, spB, spC]
  refine rn_take (i := 14) (dst := some 46) (v := .bool true) rfl (by kernel_rfl) (fun _ _ _ h => h) rfl rfl (fun W hW => ex_move W _ _ rfl rfl) hS.out ?_
  simp only [Act.put, spA, spB, spC]
  refine rn_take (i := 15) (dst := some 47) (v := .agg ([.int .i64 p1, .int .i64 h1, .slice F1 f1 cF1, .slice S1 s1 cS1, .int .i64 c1, .slice A1 a1 cA1] : List Value).toArray) rfl (by kernel_rfl) (fun _ _ _ h => h) rfl rfl (fun W hW => ex_load_mid W 53 _ rfl B1 0 rfl _ (hbx.out W (KW.out.andThen hW (fun _ _ h => h))).1 Tryz.underlying53 rfl (by kernel_rfl)) hS.out ?_
  simp only [Act.put, spA, spB, spC]
  refine rn_take (i := 16) (dst := some 48) (v := .agg ([.int .i64 p1, .int .i64 h1, .slice F1 f1 cF1, .slice S1 s1 cS1, .int .i64 c1, .slice A1 a1 cA1] : List Value).toArray) rfl (by kernel_rfl) (fun _ _ _ h => h) rfl rfl (fun W hW => ex_load_mid W 53 _ rfl B1 0 rfl _ (hbx.out W (KW.out.andThen hW (fun _ _ h => h))).1 Tryz.underlying53 rfl (by kernel_rfl)) hS.out ?_
  simp only [Act.put, spA, spB, spC]
  refine rn_one (i := 17) (dst := some 49) rfl (by kernel_rfl) rfl rfl (fun K hK => ?_)
  refine ow_call 28 _ _ rfl Tryz.func28 (by kernel_rfl) (by kernel_rfl) [.agg #[.int .i64 p1, .int .i64 h1, .slice F1 f1 cF1, .slice S1 s1 cS1, .int .i64 c1, .slice A1 a1 cA1], .agg #[.int .i64 p1, .int .i64 h1, .slice F1 f1 cF1, .slice S1 s1 cS1, .int .i64 c1, .slice A1 a1 cA1]] rfl (hsx.out _ (K7.out.andThen hS.out (fun _ _ h => h)) hb.out) ?_
  rintro e u5 ⟨rfl, k5⟩
  have hS1 : Hd ((fun W : World => Kp (fun _ => False) wk W) u5) := ⟨hS.out.andThen k5 (fun _ _ h => h)⟩
  refine ⟨_, rfl, hK _ _ (fun _ => hS1.out) ?_⟩
  clear hK K hS k5
  have hS := hS1
  clear hS1
  simp only [Act.put, spA, spB, spC]
  refine rn_take (i := 18) (dst := some 50) (v := .bool true) rfl (by kernel_rfl) (fun _ _ _ h => h) rfl rfl (fun W hW => ex_pick W _ _ _ rfl true _ rfl rfl) hS.out ?_
  simp only [Act.put, spA, spB, spC]
  refine rn_take (i := 19) (dst := some 51) (v := .bool true) rfl (by kernel_rfl) (fun _ _ _ h => h) rfl rfl (fun W hW => ex_move W _ _ rfl rfl) hS.out ?_
  simp only [Act.put, spA, spB, spC]
  refine rn_take (i := 20) (dst := some 52) (v := .string ⟨(tx).toArray⟩) rfl (by kernel_rfl) (fun _ _ _ h => h) rfl rfl (fun W hW => ex_move W _ _ rfl rfl) hS.out ?_
  simp only [Act.put, spA, spB, spC]
  refine rn_take (i := 21) (dst := some 53) (v := .string ⟨(tx).toArray⟩) rfl (by kernel_rfl) (fun _ _ _ h => h) rfl rfl (fun W hW => ex_move W _ _ rfl rfl) hS.out ?_
  simp only [Act.put, spA, spB, spC]
  refine rn_take (i := 22) (dst := some 54) (v := .bool true) rfl (by kernel_rfl) (fun _ _ _ h => h) rfl rfl (fun W hW => ex_seql W 9 9 _ _ rfl tx tx true (by simp) rfl rfl) hS.out ?_
  simp only [Act.put, spA, spB, spC]
  refine rn_take (i := 23) (dst := some 55) (v := .bool true) rfl (by kernel_rfl) (fun _ _ _ h => h) rfl rfl (fun W hW => ex_pick W _ _ _ rfl true _ rfl rfl) hS.out ?_
  simp only [Act.put, spA, spB, spC]
  refine rn_take (i := 24) (dst := some 56) (v := .bool true) rfl (by kernel_rfl) (fun _ _ _ h => h) rfl rfl (fun W hW => ex_move W _ _ rfl rfl) hS.out ?_
  simp only [Act.put, spA, spB, spC]
  refine rn_take (i := 25) (dst := some 57) (v := .int .i64 (cx)) rfl (by kernel_rfl) (fun _ _ _ h => h) rfl rfl (fun W hW => ex_move W _ _ rfl rfl) hS.out ?_
  simp only [Act.put, spA, spB, spC]
  refine rn_take (i := 26) (dst := some 58) (v := .int .i64 (cx)) rfl (by kernel_rfl) (fun _ _ _ h => h) rfl rfl (fun W hW => ex_move W _ _ rfl rfl) hS.out ?_
  simp only [Act.put, spA, spB, spC]
  refine rn_take (i := 27) (dst := some 59) (v := .bool true) rfl (by kernel_rfl) (fun _ _ _ h => h) rfl rfl (fun W hW => ex_eql W 26 _ _ _ rfl .i64 cx cx rfl rfl true (decide_eq_true rfl)) hS.out ?_
  simp only [Act.put, spA, spB, spC]
  refine rn_take (i := 28) (dst := some 60) (v := .bool true) rfl (by kernel_rfl) (fun _ _ _ h => h) rfl rfl (fun W hW => ex_pick W _ _ _ rfl true _ rfl rfl) hS.out ?_
  simp only [Act.put, spA, spB, spC]
  refine rn_take (i := 29) (dst := some 4) (v := .bool true) rfl (by kernel_rfl) (fun _ _ _ h => h) rfl rfl (fun W hW => ex_assign W _ _ rfl rfl) hS.out ?_
  simp only [Act.put, spA, spB, spC]
  refine rn_done (by kernel_rfl) ?_ _
  have KF := Hd.mk (K7.out.andThen hS.out (fun _ _ h => h))
  clear hS
  go_wp2_with fail
  go_ret
  exact ⟨rfl, KF.out⟩
end Go.Proofs.YtkcechpaeilaeaaGreatDoor
