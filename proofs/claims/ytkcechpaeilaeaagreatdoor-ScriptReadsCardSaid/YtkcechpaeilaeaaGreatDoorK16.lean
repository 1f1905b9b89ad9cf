/- Joined out of: P19 V1 V2 V3. -/
import Derived.Test.YtkcechpaeilaeaaGreatDoorK15
import Derived.Test.YtkcechpaeilaeaaGreatDoorK8
import Derived.Test.YtkcechpaeilaeaaGreatDoorK9
import Derived.Test.YtkcechpaeilaeaaGreatDoorK5
set_option linter.unusedVariables false
set_option linter.unusedSimpArgs false
namespace Go.Proofs.YtkcechpaeilaeaaGreatDoor
open Go.RowKit
set_option maxRecDepth 100000
def Ar (w : World) (v : Value) (ac : List A) : Prop := ∃ X c, v = .slice X ac.length c ∧ (ac = [] ∨ ∃ g o, X = some ⟨g, o, none⟩ ∧ ∀ i a, ac[i]? = some a → ∃ At ct Ap cp, w.rangeAt g (o + i * 5) [.int .i64 a.d, .string ⟨a.k.toArray⟩, .slice At a.t.length ct, .int .i64 a.n, .slice Ap a.p.length cp] ∧ Bs w (.slice At a.t.length ct) (ints a.t) ∧ Bs w (.slice Ap a.p.length cp) (ints a.p))
theorem rangez {w w' : World} {b o : Nat} {cs : List Value} (h : w.rangeAt b o cs) (hk : KZ w w') : w'.rangeAt b o cs := fun j v hv => hk.see (h j v hv) id
theorem Ar.keep {w w' : World} {v : Value} {ac : List A} (h : Ar w v ac) (hk : KZ w w') : Ar w' v ac := by
 obtain ⟨X, c, rfl, h⟩ := h
 refine ⟨X, c, rfl, ?_⟩
 rcases h with h | ⟨g, o, rfl, hr⟩
 ·exact .inl h
 ·refine .inr ⟨g, o, rfl, fun i a ha => ?_⟩
  obtain ⟨At, ct, Ap, cp, h1, h2, h3⟩ := hr i a ha
  exact ⟨At, ct, Ap, cp, rangez h1 hk, bs_kpz h2 hk, bs_kpz h3 hk⟩
theorem Ar.row {w : World} {X : Option Addr} {n c : Nat} {ac : List A} (h : Ar w (.slice X n c) ac) {i : Nat} {a : A} (ha : ac[i]? = some a) : ∃ g o, X = some ⟨g, o, none⟩ ∧ ∃ At ct Ap cp, w.rangeAt g (o + i * 5) [.int .i64 a.d, .string ⟨a.k.toArray⟩, .slice At a.t.length ct, .int .i64 a.n, .slice Ap a.p.length cp] ∧ Bs w (.slice At a.t.length ct) (ints a.t) ∧ Bs w (.slice Ap a.p.length cp) (ints a.p) := by
 obtain ⟨X', c', e, h⟩ := h
 injection e with e1
 subst e1
 rcases h with rfl | ⟨g, o, rfl, hr⟩
 ·simp at ha
 ·exact ⟨g, o, rfl, hr i a ha⟩
theorem isbad_at (a : A) (w : World) (At : Option Addr) (ct : Nat) (Ap : Option Addr) (cp : Nat) :
  Calls Tryz.prog 68 #[.agg #[.int .i64 a.d, .string ⟨a.k.toArray⟩, .slice At a.t.length ct, .int .i64 a.n, .slice Ap a.p.length cp]] w fun e w' => e = .returned (.bool (!decide (may a))) ∧ KZ w w' := by
 have hc := Hd.mk (may_at a)
 generalize decide (may a) = q at *
 obtain ⟨d, k, t, n, p⟩ := a
 simp only at *
 cases q <;> (
  go_enter Tryz.func68, Tryz.ntmps68
  go_wp2_with (go_at_call 38; refine (hc.out _ At ct Ap cp).mono ?_; rintro e w1 ⟨rfl, hk1⟩; have K1 : Hd (KZ w w1) := ⟨((Kp.refl _ w).alloc _).th hk1⟩; clear hk1; dsimp only)
  go_ret
  exact ⟨rfl, K1.out⟩)
theorem isbad_b (a : A) (q : Bool) (hq : decide (may a) = !q) (w : World) (At : Option Addr) (ct : Nat) (Ap : Option Addr) (cp : Nat) :
  Calls Tryz.prog 68 #[.agg #[.int .i64 a.d, .string ⟨a.k.toArray⟩, .slice At a.t.length ct, .int .i64 a.n, .slice Ap a.p.length cp]] w fun e w' => e = .returned (.bool q) ∧ KZ w w' := by
 have := isbad_at a w At ct Ap cp
 rwa [hq, Bool.not_not] at this
def allMay (ac : List A) : Prop := ∀ (i : Nat) (a : A), ac[i]? = some a → may a
def IxR (p : Prop) (w w' : World) (e : Ending) : Prop := (∃ z : Int, e = .returned (.int .i64 z) ∧ ((p ∧ z = -1) ∨ (¬ p ∧ 0 ≤ z))) ∧ KZ w w'
set_option maxHeartbeats 2000000 in
theorem idx_at (ac : List A) (w : World) (X : Option Addr) (c : Nat) (hn : ac.length ≤ 1000000) (hA : Ar w (.slice X ac.length c) ac) :
  Calls Tryz.prog 91 #[.slice X ac.length c, .func (.func 68) #[] #[]] w fun e w' => IxR (allMay ac) w w' e := by
 have HA := Hd.mk hA
 obtain ⟨n, hne⟩ : ∃ n, ac.length = n := ⟨_, rfl⟩
 rw [hne] at HA hn ⊢
 have hnq := Hd.mk hne
 clear hA hne
 go_enter Tryz.func91, Tryz.ntmps91
 go_wp2_with fail
 go_loopw [8] (fun v8 wr => ∃ k : Nat, v8 = .int .i64 k ∧ k ≤ n ∧ Hd (KZ w wr ∧ ∀ i a, i < k → ac[i]? = some a → may a)) (fun v8 _ => n - (intOf v8).toNat)
 case atStart => exact ⟨0, rfl, Nat.zero_le _, ⟨Kp.refl _ _, fun i a hi => absurd hi (Nat.not_lt_zero _)⟩⟩
 case round =>
  obtain ⟨k, rfl, hk, HK⟩ := hrel
  have hkb : (k : Int) + 1 ≤ 1000001 := by omega
  by_cases h1 : k < n
  ·have hltI : (k : Int) < (n : Int) := by omega
   obtain ⟨a, ha⟩ : ∃ a, ac[k]? = some a := ⟨_, List.getElem?_eq_getElem (by rw [hnq.out]; exact h1)⟩
   obtain ⟨g, o, rfl, At, ct, Ap, cp, hr, _, _⟩ := (HA.out.keep HK.out.1).row ha
   have ha := Hd.mk ha
   have hr := Hd.mk hr
   obtain ⟨q, hq⟩ : ∃ q, Hd (decide (may a) = q) := ⟨_, ⟨rfl⟩⟩
   have hb := Hd.mk (isbad_b a (!q) (by rw [Bool.not_not]; exact hq.out))
   obtain ⟨d, k0, t, n0, p⟩ := a
   simp only at hr hb
   cases q <;> simp only [Bool.not_false, Bool.not_true] at hb
   ·go_wp2_with (first | (with_reducible refine wl_load_mid rfl 24 (.tmp 14) rfl g (o + k * 5) rfl [.int .i64 d, .string ⟨k0.toArray⟩, .slice At t.length ct, .int .i64 n0, .slice Ap p.length cp] hr.out Tryz.underlying24 rfl (by kernel_rfl) ?_) | (go_at_call 68; refine (hb.out _ At ct Ap cp).mono ?_; rintro e w1 ⟨rfl, hk1⟩; have K1 := Hd.mk (HK.out.1.th hk1); clear hk1; dsimp only))
    go_ret
    exact ⟨⟨(k : Int), rfl, .inr ⟨fun h => of_decide_eq_false hq.out (h k _ ha.out), by omega⟩⟩, K1.out⟩
   ·go_wp2_with (first | (with_reducible refine wl_load_mid rfl 24 (.tmp 14) rfl g (o + k * 5) rfl [.int .i64 d, .string ⟨k0.toArray⟩, .slice At t.length ct, .int .i64 n0, .slice Ap p.length cp] hr.out Tryz.underlying24 rfl (by kernel_rfl) ?_) | (go_at_call 68; refine (hb.out _ At ct Ap cp).mono ?_; rintro e w1 ⟨rfl, hk1⟩; have K1 := Hd.mk (HK.out.1.th hk1); clear hk1; dsimp only))
    exact ⟨⟨k + 1, by go_num, by omega, ⟨K1.out, fun i a' hi ha' => by
     by_cases e : i = k
     ·subst e; rw [ha.out] at ha'; cases ha'; exact of_decide_eq_true hq.out
     ·exact HK.out.2 i a' (by omega) ha'⟩⟩, by simp [intOf]; omega⟩
  ·have hltI : ¬ (k : Int) < (n : Int) := by omega
   go_wp2_with fail
   go_ret
   exact ⟨⟨-1, rfl, .inl ⟨fun i a ha => HK.out.2 i a (by have := (List.getElem?_eq_some_iff.1 ha).1; have := hnq.out; omega) ha, rfl⟩⟩, HK.out.1⟩
theorem contains_at (ac : List A) (w : World) (X : Option Addr) (c : Nat) (hn : ac.length ≤ 1000000) (hA : Ar w (.slice X ac.length c) ac) :
  Calls Tryz.prog 69 #[.slice X ac.length c, .func (.func 68) #[] #[]] w fun e w' => BoR (¬ allMay ac) w w' e := by
 have hc := Hd.mk (idx_at ac w X c hn hA)
 clear hA hn
 generalize ac.length = n at *
 go_enter Tryz.func69, Tryz.ntmps69
 go_wp2_with fail
 refine hc.out.mono ?_
 rintro e w1 ⟨⟨z, rfl, hz⟩, hk1⟩
 have hk1 := Hd.mk hk1
 rcases hz with ⟨hp, rfl⟩ | ⟨hp, hz⟩
 ·go_wp2_with fail
  go_ret
  exact ⟨⟨false, rfl, ⟨fun h => (by cases h), fun h => absurd hp h⟩⟩, hk1.out⟩
 ·go_wp2_with fail
  go_ret
  exact ⟨⟨true, rfl, ⟨fun _ => hp, fun _ => rfl⟩⟩, hk1.out⟩
structure Sc where
 pages : Int
 cache : Int
 fl : List Fo
 ss : List (List UInt8)
 cap : Int
 ac : List A
structure Sc.small (s : Sc) : Prop where
 wf : ∀ x ∈ s.fl, (-2147483648 ≤ x.f ∧ x.f ≤ 2147483647) ∧ (-2147483648 ≤ x.t ∧ x.t ≤ 2147483647)
 ss : ∀ l ∈ s.ss, l.length ≤ 2000000
 ac : s.ac.length ≤ 1000000
structure ScR (w : World) (s : Sc) (AF : Option Addr) (cF : Nat) (AS : Option Addr) (cS : Nat) (AA : Option Addr) (cA : Nat) : Prop where
 fl : Fr w (.slice AF s.fl.length cF) s.fl
 ss : Wos w (.slice AS s.ss.length cS) s.ss
 ac : Ar w (.slice AA s.ac.length cA) s.ac
abbrev r6 (s : Sc) (F : Option Addr) (cF : Nat) (S : Option Addr) (cS : Nat) (X : Option Addr) (cA : Nat) : List Value := [.int .i64 s.pages, .int .i64 s.cache, .slice F s.fl.length cF, .slice S s.ss.length cS, .int .i64 s.cap, .slice X s.ac.length cA]
theorem ScR.keep {w w' : World} {s : Sc} {AF : Option Addr} {cF : Nat} {AS : Option Addr} {cS : Nat} {AA : Option Addr} {cA : Nat} (h : ScR w s AF cF AS cS AA cA) (hk : KZ w w') : ScR w' s AF cF AS cS AA cA := ⟨h.fl.keep hk, h.ss.keep hk, h.ac.keep hk⟩
def headOk (s : Sc) : Prop := (8 ≤ s.pages ∧ s.pages ≤ 2048) ∧ (2 ≤ s.cache ∧ s.cache ≤ 64) ∧ bOk s.fl s.ss s.cap
def scOk (s : Sc) : Prop := headOk s ∧ s.ac.length ≤ 400 ∧ allMay s.ac
theorem box6 (w w' : World) (a b c d e f : Value) (t : TypeId) (hk : KZ (w.alloc (.cells #[a, b, c, d, e, f] t)) w') :
  (w'.cell? ⟨w.heap.size, 0, none⟩ = some a ∧ w'.cell? ⟨w.heap.size, 1, none⟩ = some b ∧ w'.cell? ⟨w.heap.size, 2, none⟩ = some c ∧ w'.cell? ⟨w.heap.size, 3, none⟩ = some d ∧ w'.cell? ⟨w.heap.size, 4, none⟩ = some e ∧ w'.cell? ⟨w.heap.size, 5, none⟩ = some f) ∧ w'.rangeAt w.heap.size 0 [a, b, c, d, e, f] ∧ w'.rangeAt w.heap.size 2 [c, d, e] := by
 have h := _root_.Go.heap_alloc_new w (.cells #[a, b, c, d, e, f] t)
 have hc : ∀ i v, #[a, b, c, d, e, f][i]? = some v → w'.cell? ⟨w.heap.size, i, none⟩ = some v := fun i v hi => hk.see (by rw [Lib.cell_of_heap h]; exact hi) id
 refine ⟨⟨hc 0 _ rfl, hc 1 _ rfl, hc 2 _ rfl, hc 3 _ rfl, hc 4 _ rfl, hc 5 _ rfl⟩, fun j v hj => ?_, fun j v hj => ?_⟩
 ·rw [Nat.zero_add]; exact hc j v (by simpa using hj)
 ·match j, hj with
  | 0, hj => exact hc 2 v hj
  | 1, hj => exact hc 3 v hj
  | 2, hj => exact hc 4 v hj
set_option maxHeartbeats 8000000 in
theorem scheck_at {w : World} {AF AS AA : Option Addr} {cF cS cA : Nat} (s : Sc) (hs : s.small) (hR : ScR w s AF cF AS cS AA cA) :
  Calls Tryz.prog 26 #[.agg #[.int .i64 s.pages, .int .i64 s.cache, .slice AF s.fl.length cF, .slice AS s.ss.length cS, .int .i64 s.cap, .slice AA s.ac.length cA]] w fun e w' => CoR 270 (scOk s) w w' e := by
 obtain ⟨pages, cache, fl, ss, cap, ac⟩ := s
 obtain ⟨hwf, hss, has⟩ := hs
 obtain ⟨hF, hS, hA⟩ := hR
 simp only at hwf hss has hF hS hA ⊢
 obtain ⟨nf, hnf⟩ : ∃ n, fl.length = n := ⟨_, rfl⟩
 obtain ⟨ns, hns⟩ : ∃ n, ss.length = n := ⟨_, rfl⟩
 obtain ⟨na, hna⟩ : ∃ n, ac.length = n := ⟨_, rfl⟩
 obtain ⟨w1, hw1⟩ : ∃ w1, w.alloc (.cells #[.int .i64 pages, .int .i64 cache, .slice AF nf cF, .slice AS ns cS, .int .i64 cap, .slice AA na cA] 53) = w1 := ⟨_, rfl⟩
 have k01 : Hd (KZ w w1) := ⟨by rw [← hw1]; exact (Kp.refl _ w).alloc _⟩
 have hbx : Hd (∀ w', KZ w1 w' → (w'.cell? ⟨w.heap.size, 0, none⟩ = some (.int .i64 pages) ∧ w'.cell? ⟨w.heap.size, 1, none⟩ = some (.int .i64 cache) ∧ w'.cell? ⟨w.heap.size, 2, none⟩ = some (.slice AF nf cF) ∧ w'.cell? ⟨w.heap.size, 3, none⟩ = some (.slice AS ns cS) ∧ w'.cell? ⟨w.heap.size, 4, none⟩ = some (.int .i64 cap) ∧ w'.cell? ⟨w.heap.size, 5, none⟩ = some (.slice AA na cA)) ∧ w'.rangeAt w.heap.size 0 [.int .i64 pages, .int .i64 cache, .slice AF nf cF, .slice AS ns cS, .int .i64 cap, .slice AA na cA] ∧ w'.rangeAt w.heap.size 2 [.slice AF nf cF, .slice AS ns cS, .int .i64 cap]) := ⟨fun w' hk => by
  rw [← hw1] at hk
  exact box6 _ _ _ _ _ _ _ _ _ hk⟩
 have hwb := Hd.mk (wbytes_at (w := w1) fl ss cap hwf hss (hF.keep k01.out) (hS.keep k01.out))
 have HA := Hd.mk (fun w' (hk : KZ w1 w') => contains_at ac w' AA cA has (hA.keep (k01.out.th hk)))
 rw [hnf, hns] at hwb
 rw [hna] at HA
 rw [hnf, hns, hna]
 have hna' := Hd.mk hna
 clear hnf hns hna hwf hss has hF hS hA
 have br0 : Hd ((w.alloc (.cells #[.int .i64 pages, .int .i64 cache, .slice AF nf cF, .slice AS ns cS, .int .i64 cap, .slice AA na cA] 53)).rangeAt w.heap.size 2 [.slice AF nf cF, .slice AS ns cS, .int .i64 cap]) := ⟨by rw [hw1]; exact (hbx.out w1 (Kp.refl _ _)).2.2⟩
 have hwq := Hd.mk hw1
 clear hw1
 go_enter Tryz.func26, Tryz.ntmps26
 go_wp2_with (first | (with_reducible refine wl_load_mid rfl 50 (.tmp 7) rfl w.heap.size 2 rfl [.slice AF nf cF, .slice AS ns cS, .int .i64 cap] br0.out Tryz.underlying50 rfl (by kernel_rfl) ?_))
 rw [hwq.out]
 refine hwb.out.mono ?_
 rintro e w2 ⟨⟨vb, c, rfl, hc, hcc⟩, k2⟩
 have K2 := Hd.mk k2
 obtain ⟨⟨d0, d1, d2, d3, d4, d5⟩, _, _⟩ := hbx.out w2 k2
 have hc := Hd.mk hc
 clear k2 hwb br0
 by_cases hp1 : pages < 8
 ·go_wp2_with fail
  go_ret
  exact ⟨.inr ⟨rfl, fun h => by have := h.1.1.1; simp only at this; omega⟩, k01.out.th K2.out⟩
 by_cases hp2 : 2048 < pages
 ·go_wp2_with fail
  go_ret
  exact ⟨.inr ⟨rfl, fun h => by have := h.1.1.2; simp only at this; omega⟩, k01.out.th K2.out⟩
 by_cases hc1 : cache < 2
 ·go_wp2_with fail
  go_ret
  exact ⟨.inr ⟨rfl, fun h => by have := h.1.2.1.1; simp only at this; omega⟩, k01.out.th K2.out⟩
 by_cases hc2 : 64 < cache
 ·go_wp2_with fail
  go_ret
  exact ⟨.inr ⟨rfl, fun h => by have := h.1.2.1.2; simp only at this; omega⟩, k01.out.th K2.out⟩
 by_cases hc0 : c = 0
 rotate_left
 ·have hcc := hcc.resolve_left hc0
  have hc0' := Hd.mk hc0
  clear hc0
  have hc0 := hc0'
  clear hc0'
  rcases hcc with rfl | rfl <;> (
   go_wp2_with fail
   go_ret
   exact ⟨.inr ⟨rfl, fun h => hc0.out (hc.out.2 h.1.2.2)⟩, k01.out.th K2.out⟩)
 ·have hcz := Hd.mk hc0
  clear hcc hc0
  have D0 := Hd.mk d0
  have q1 : Hd (decide (pages < 8) = false) := ⟨decide_eq_false hp1⟩
  have q2 : Hd (decide ((2048 : Int) < pages) = false) := ⟨decide_eq_false hp2⟩
  have q3 : Hd (decide (cache < 2) = false) := ⟨decide_eq_false hc1⟩
  have q4 : Hd (decide ((64 : Int) < cache) = false) := ⟨decide_eq_false hc2⟩
  have hh : Hd ((8 ≤ pages ∧ pages ≤ 2048) ∧ (2 ≤ cache ∧ cache ≤ 64)) := ⟨by omega⟩
  clear hp1 hp2 hc1 hc2
  by_cases h4 : 400 < na
  ·have q5 : Hd (decide ((400 : Int) < (na : Int)) = true) := ⟨decide_eq_true (by omega)⟩
   have h4 := Hd.mk h4
   go_wp2_with (first | ((with_reducible refine wl_run rfl (ex_load _ 3 (.tmp 12) (.int .i64 pages) rfl ⟨w.heap.size, 0, none⟩ U3 rfl rfl D0.out) ?_); obtain rfl : c = 0 := hcz.out; simp only [Act.put, uA, uB, uC]) | ((with_reducible refine wl_run rfl (ex_lss _ 3 3 (.tmp 13) (.const (.int .i64 8)) rfl .i64 pages 8 rfl rfl false q1.out) ?_); simp only [Act.put, uA, uB, uC]) | ((with_reducible refine wl_runG ?hw (ex_gtr _ 3 3 (.tmp 17) (.const (.int .i64 2048)) rfl .i64 pages 2048 rfl rfl false q2.out) ?_); (case hw => rfl); simp only [Act.put, uA, uB, uC]) | ((with_reducible refine wl_runG ?hw (ex_lss _ 3 3 (.tmp 22) (.const (.int .i64 2)) rfl .i64 cache 2 rfl rfl false q3.out) ?_); (case hw => rfl); simp only [Act.put, uA, uB, uC]) | ((with_reducible refine wl_runG ?hw (ex_gtr _ 3 3 (.tmp 27) (.const (.int .i64 64)) rfl .i64 cache 64 rfl rfl false q4.out) ?_); (case hw => rfl); simp only [Act.put, uA, uB, uC]) | ((with_reducible refine wl_runG ?hw (ex_gtr _ 3 3 (.tmp 37) (.const (.int .i64 400)) rfl .i64 (na : Int) 400 rfl rfl true q5.out) ?_); (case hw => rfl); simp only [Act.put, uA, uB, uC]))
   go_ret
   exact ⟨.inr ⟨rfl, fun h => by have := h.2.1; simp only at this; have := hna'.out; have := h4.out; omega⟩, k01.out.th K2.out⟩
  ·have q5 : Hd (decide ((400 : Int) < (na : Int)) = false) := ⟨decide_eq_false (by omega)⟩
   have h4 := Hd.mk h4
   have HCA := Hd.mk (HA.out w2 K2.out)
   go_wp2_with (first | ((with_reducible refine wl_run rfl (ex_load _ 3 (.tmp 12) (.int .i64 pages) rfl ⟨w.heap.size, 0, none⟩ U3 rfl rfl D0.out) ?_); obtain rfl : c = 0 := hcz.out; simp only [Act.put, uA, uB, uC]) | ((with_reducible refine wl_run rfl (ex_lss _ 3 3 (.tmp 13) (.const (.int .i64 8)) rfl .i64 pages 8 rfl rfl false q1.out) ?_); simp only [Act.put, uA, uB, uC]) | ((with_reducible refine wl_runG ?hw (ex_gtr _ 3 3 (.tmp 17) (.const (.int .i64 2048)) rfl .i64 pages 2048 rfl rfl false q2.out) ?_); (case hw => rfl); simp only [Act.put, uA, uB, uC]) | ((with_reducible refine wl_runG ?hw (ex_lss _ 3 3 (.tmp 22) (.const (.int .i64 2)) rfl .i64 cache 2 rfl rfl false q3.out) ?_); (case hw => rfl); simp only [Act.put, uA, uB, uC]) | ((with_reducible refine wl_runG ?hw (ex_gtr _ 3 3 (.tmp 27) (.const (.int .i64 64)) rfl .i64 cache 64 rfl rfl false q4.out) ?_); (case hw => rfl); simp only [Act.put, uA, uB, uC]) | ((with_reducible refine wl_runG ?hw (ex_gtr _ 3 3 (.tmp 37) (.const (.int .i64 400)) rfl .i64 (na : Int) 400 rfl rfl false q5.out) ?_); (case hw => rfl); simp only [Act.put, uA, uB, uC]) | (go_at_call 69; refine HCA.out.mono ?_; rintro e w3 ⟨⟨b, rfl, hb⟩, k3⟩; have K3 := Hd.mk (K2.out.th k3); have hb := Hd.mk hb; clear k3; cases b <;> dsimp only))
   ·go_ret
    exact ⟨.inl ⟨rfl, ⟨hh.out.1, hh.out.2, hc.out.1 (by trivial)⟩, by simp only; have := hna'.out; have := h4.out; omega, Classical.byContradiction fun hn => by have := hb.out.2 hn; cases this⟩, k01.out.th K3.out⟩
   ·go_ret
    exact ⟨.inr ⟨rfl, fun h => hb.out.1 (by trivial) h.2.2⟩, k01.out.th K3.out⟩
set_option maxHeartbeats 8000000 in
theorem rhead_at {w : World} {AF AS AA : Option Addr} {cF cS cA : Nat} (s : Sc) (hs : s.small) (hR : ScR w s AF cF AS cS AA cA) :
  Calls Tryz.prog 70 #[.agg #[.int .i64 s.pages, .int .i64 s.cache, .slice AF s.fl.length cF, .slice AS s.ss.length cS, .int .i64 s.cap, .slice AA s.ac.length cA]] w fun e w' => BoR (headOk s) w w' e := by
 obtain ⟨pages, cache, fl, ss, cap, ac⟩ := s
 obtain ⟨hwf, hss, has⟩ := hs
 obtain ⟨hF, hS, hA⟩ := hR
 simp only at hwf hss has hF hS hA ⊢
 obtain ⟨nf, hnf⟩ : ∃ n, fl.length = n := ⟨_, rfl⟩
 obtain ⟨ns, hns⟩ : ∃ n, ss.length = n := ⟨_, rfl⟩
 obtain ⟨na, hna⟩ : ∃ n, ac.length = n := ⟨_, rfl⟩
 obtain ⟨w1, hw1⟩ : ∃ w1, w.alloc (.cells #[.int .i64 pages, .int .i64 cache, .slice AF nf cF, .slice AS ns cS, .int .i64 cap, .slice AA na cA] 53) = w1 := ⟨_, rfl⟩
 have k01 : Hd (KZ w w1) := ⟨by rw [← hw1]; exact (Kp.refl _ w).alloc _⟩
 have hbx : Hd (∀ w', KZ w1 w' → (w'.cell? ⟨w.heap.size, 0, none⟩ = some (.int .i64 pages) ∧ w'.cell? ⟨w.heap.size, 1, none⟩ = some (.int .i64 cache) ∧ w'.cell? ⟨w.heap.size, 2, none⟩ = some (.slice AF nf cF) ∧ w'.cell? ⟨w.heap.size, 3, none⟩ = some (.slice AS ns cS) ∧ w'.cell? ⟨w.heap.size, 4, none⟩ = some (.int .i64 cap) ∧ w'.cell? ⟨w.heap.size, 5, none⟩ = some (.slice AA na cA)) ∧ w'.rangeAt w.heap.size 0 [.int .i64 pages, .int .i64 cache, .slice AF nf cF, .slice AS ns cS, .int .i64 cap, .slice AA na cA] ∧ w'.rangeAt w.heap.size 2 [.slice AF nf cF, .slice AS ns cS, .int .i64 cap]) := ⟨fun w' hk => by
  rw [← hw1] at hk
  exact box6 _ _ _ _ _ _ _ _ _ hk⟩
 have hwb := Hd.mk (rbytes_at (w := w1) fl ss cap hwf hss (hF.keep k01.out) (hS.keep k01.out))
 rw [hnf, hns] at hwb
 rw [hnf, hns, hna]
 clear hnf hns hna hwf hss has hF hS hA
 have br0 : Hd ((w.alloc (.cells #[.int .i64 pages, .int .i64 cache, .slice AF nf cF, .slice AS ns cS, .int .i64 cap, .slice AA na cA] 53)).rangeAt w.heap.size 2 [.slice AF nf cF, .slice AS ns cS, .int .i64 cap]) := ⟨by rw [hw1]; exact (hbx.out w1 (Kp.refl _ _)).2.2⟩
 have hwq := Hd.mk hw1
 clear hw1
 go_enter Tryz.func70, Tryz.ntmps70
 go_wp2_with (first | (with_reducible refine wl_load_mid rfl 50 (.tmp 6) rfl w.heap.size 2 rfl [.slice AF nf cF, .slice AS ns cS, .int .i64 cap] br0.out Tryz.underlying50 rfl (by kernel_rfl) ?_))
 rw [hwq.out]
 refine hwb.out.mono ?_
 rintro e w2 ⟨⟨vb, c, rfl, hc, hcc⟩, k2⟩
 have K2 := Hd.mk k2
 obtain ⟨⟨d0, d1, d2, d3, d4, d5⟩, _, _⟩ := hbx.out w2 k2
 have hc := Hd.mk hc
 clear k2 hwb br0
 by_cases hp1 : (8 : Int) ≤ pages
 rotate_left
 ·go_wp2_with fail
  go_ret
  exact ⟨⟨false, rfl, ⟨fun h => (by cases h), fun h => (by have := h.1.1; simp only at this; omega)⟩⟩, k01.out.th K2.out⟩
 by_cases hp2 : pages ≤ 2048
 rotate_left
 ·go_wp2_with fail
  go_ret
  exact ⟨⟨false, rfl, ⟨fun h => (by cases h), fun h => (by have := h.1.2; simp only at this; omega)⟩⟩, k01.out.th K2.out⟩
 by_cases hc1 : (2 : Int) ≤ cache
 rotate_left
 ·go_wp2_with fail
  go_ret
  exact ⟨⟨false, rfl, ⟨fun h => (by cases h), fun h => (by have := h.2.1.1; simp only at this; omega)⟩⟩, k01.out.th K2.out⟩
 by_cases hc2 : cache ≤ 64
 rotate_left
 ·go_wp2_with fail
  go_ret
  exact ⟨⟨false, rfl, ⟨fun h => (by cases h), fun h => (by have := h.2.1.2; simp only at this; omega)⟩⟩, k01.out.th K2.out⟩
 by_cases hc0 : c = 0
 rotate_left
 ·have hcc := hcc.resolve_left hc0
  have hc0' := Hd.mk hc0
  clear hc0
  have hc0 := hc0'
  clear hc0'
  rcases hcc with rfl | rfl <;> (
   go_wp2_with fail
   go_ret
   exact ⟨⟨false, rfl, ⟨fun h => (by cases h), fun h => absurd (hc.out.2 h.2.2) hc0.out⟩⟩, k01.out.th K2.out⟩)
 ·have hcz := Hd.mk hc0
  clear hcc hc0
  have D0 := Hd.mk d0
  have q1 : Hd (decide ((8 : Int) ≤ pages) = true) := ⟨decide_eq_true hp1⟩
  have q2 : Hd (decide (pages ≤ 2048) = true) := ⟨decide_eq_true hp2⟩
  have q3 : Hd (decide ((2 : Int) ≤ cache) = true) := ⟨decide_eq_true hc1⟩
  have q4 : Hd (decide (cache ≤ 64) = true) := ⟨decide_eq_true hc2⟩
  have hh : Hd ((8 ≤ pages ∧ pages ≤ 2048) ∧ (2 ≤ cache ∧ cache ≤ 64)) := ⟨⟨⟨hp1, hp2⟩, hc1, hc2⟩⟩
  clear hp1 hp2 hc1 hc2
  go_wp2_with (first | ((with_reducible refine wl_run rfl (ex_load _ 3 (.tmp 11) (.int .i64 pages) rfl ⟨w.heap.size, 0, none⟩ U3 rfl rfl D0.out) ?_); obtain rfl : c = 0 := hcz.out; simp only [Act.put, uA, uB, uC]) | ((with_reducible refine wl_run rfl (ex_geq _ 3 3 (.tmp 12) (.const (.int .i64 8)) rfl .i64 pages 8 rfl rfl true q1.out) ?_); simp only [Act.put, uA, uB, uC]) | ((with_reducible refine wl_runG ?hw (ex_leq _ 3 3 (.tmp 16) (.const (.int .i64 2048)) rfl .i64 pages 2048 rfl rfl true q2.out) ?_); (case hw => rfl); simp only [Act.put, uA, uB, uC]) | ((with_reducible refine wl_runG ?hw (ex_geq _ 3 3 (.tmp 21) (.const (.int .i64 2)) rfl .i64 cache 2 rfl rfl true q3.out) ?_); (case hw => rfl); simp only [Act.put, uA, uB, uC]) | ((with_reducible refine wl_runG ?hw (ex_leq _ 3 3 (.tmp 26) (.const (.int .i64 64)) rfl .i64 cache 64 rfl rfl true q4.out) ?_); (case hw => rfl); simp only [Act.put, uA, uB, uC]))
  go_ret
  exact ⟨⟨true, rfl, ⟨fun _ => ⟨hh.out.1, hh.out.2, hc.out.1 (by trivial)⟩, fun _ => rfl⟩⟩, k01.out.th K2.out⟩
set_option maxHeartbeats 1000000 in
theorem foldcheck_nil (w : World) : Calls Tryz.prog 111 #[.slice none 0 0] w fun e w' => e = .returned (.int .i64 0) ∧ w = w' := by
 go_enter Tryz.func111, Tryz.ntmps111
 go_wp2_with fail
 go_loopw [14] (fun v14 wr => v14 = .int .i64 0 ∧ w = wr) (fun _ _ => 0)
 case atStart => exact ⟨rfl, rfl⟩
 case round =>
  obtain ⟨rfl, rfl⟩ := hrel
  go_wp2_with fail
  go_loopw [85] (fun v14 wr => v14 = .int .i64 0 ∧ w = wr) (fun _ _ => 0)
  case atStart => exact ⟨rfl, rfl⟩
  case round =>
   obtain ⟨rfl, rfl⟩ := hrel
   go_wp2_with fail
   go_ret
   exact ⟨rfl, rfl⟩
abbrev cf4 : Value := .agg #[.slice none 0 0, .slice none 0 0, .int .i64 4]
set_option maxHeartbeats 1000000 in
theorem folds_nil (w : World) : Calls Tryz.prog 112 #[cf4] w fun e w' => (∃ ad, e = .returned (.pointer (some ad))) ∧ KZ w w' := by
 go_enter Tryz.func112, Tryz.ntmps112
 go_wp2_with (with_reducible refine wl_run rfl (ex_makeMap _ 163 rfl) ?_)
 go_ret
 exact ⟨⟨_, rfl⟩, (((Kp.refl _ w).alloc _).alloc _).alloc _⟩
set_option maxHeartbeats 1000000 in
theorem wmay_nil (w : World) : Calls Tryz.prog 88 #[cf4] w fun e w' => e = .returned (.bool true) ∧ KZ w w' := by
 have K0 : Hd (KZ w (w.alloc (.cells #[.slice none 0 0, .slice none 0 0, .int .i64 4] 50))) := ⟨(Kp.refl _ w).alloc _⟩
 have c1 : ∀ w1, KZ (w.alloc (.cells #[.slice none 0 0, .slice none 0 0, .int .i64 4] 50)) w1 → w1.cell? ⟨w.heap.size, 1, none⟩ = some (.slice none 0 0) := fun w1 hk => hk.see (by rw [Lib.cell_of_heap (_root_.Go.heap_alloc_new w _)]; rfl) id
 have c1 := Hd.mk c1
 go_enter Tryz.func88, Tryz.ntmps88
 go_wp2_with (first | (go_at_call 111; refine (foldcheck_nil _).mono ?_; rintro e w1 ⟨rfl, rfl⟩; dsimp only) | (go_at_call 112; refine (folds_nil _).mono ?_; rintro e w1 ⟨⟨ad, rfl⟩, hk1⟩; have hc := c1.out _ hk1; have K1 := Hd.mk (K0.out.th hk1); clear hk1; dsimp only))
 go_loopw [31] (fun v14 wr => v14 = .int .i64 0 ∧ w1 = wr) (fun _ _ => 0)
 case atStart => exact ⟨rfl, rfl⟩
 case round =>
  obtain ⟨rfl, rfl⟩ := hrel
  go_wp2_with fail
  go_ret
  exact ⟨rfl, K1.out⟩
theorem wb_join {w0 w1 w2 w3 : World} {o : Obj} (h3 : KZ w0 w2) (h1 : KZ w0 (w1.alloc o)) (hb : Below w1.heap.size w2 w3) (hs : w0.heap.size ≤ w1.heap.size) : KZ w0 w3 :=
 Kp.of_below (h3.below.trans ⟨hb.os, hb.tape, hb.output, hb.size, fun k hk => hb.block k (Nat.lt_of_lt_of_le hk hs)⟩) _
set_option maxHeartbeats 1000000 in
theorem wbytes_nil (w : World) : Calls Tryz.prog 67 #[cf4] w fun e w' => (∃ v, e = .returned (.tuple #[v, .int .i64 0])) ∧ KZ w w' := by
 have K0 : Hd (KZ w (w.alloc (.cells #[.slice none 0 0, .slice none 0 0, .int .i64 4] 50))) := ⟨(Kp.refl _ w).alloc _⟩
 have cc : Hd (∀ w1, KZ (w.alloc (.cells #[.slice none 0 0, .slice none 0 0, .int .i64 4] 50)) w1 → w1.cell? ⟨w.heap.size, 0, none⟩ = some (.slice none 0 0) ∧ w1.cell? ⟨w.heap.size, 1, none⟩ = some (.slice none 0 0) ∧ w1.cell? ⟨w.heap.size, 2, none⟩ = some (.int .i64 4)) :=
  ⟨fun w1 hk => ⟨hk.see (by rw [Lib.cell_of_heap (_root_.Go.heap_alloc_new w _)]; rfl) id, hk.see (by rw [Lib.cell_of_heap (_root_.Go.heap_alloc_new w _)]; rfl) id, hk.see (by rw [Lib.cell_of_heap (_root_.Go.heap_alloc_new w _)]; rfl) id⟩⟩
 have ob2 : Hd (∀ w1 : World, Ob w1.heap.size (w1.alloc (.cells #[.int .u8 4, .int .u8 0] 5)) (.slice (some ⟨w1.heap.size, 0, none⟩) 2 2) [4, 0]) :=
  ⟨fun w1 => ⟨⟨rfl, .inr ⟨w1.heap.size, 2, #[.int .u8 4, .int .u8 0], rfl, Nat.zero_le _, _root_.Go.heap_alloc_new w1 _, Nat.le_refl _, by decide, rfl, rfl⟩⟩, fun k hk => by cases hk; exact Nat.le_refl _⟩⟩
 go_enter Tryz.func67, Tryz.ntmps67
 go_wp2_with (first | (go_at_call 88; refine (wmay_nil _).mono ?_; rintro e w1 ⟨rfl, hk1⟩; obtain ⟨d0, d1, d2⟩ := cc.out _ hk1; have hs0 := Hd.mk hk1.size; have hk2 := hk1.th ((Kp.refl (fun _ => False) w1).alloc (.cells #[.int .u8 4, .int .u8 0] 5)); obtain ⟨f0, f1, f2⟩ := cc.out _ hk2; have K2 := Hd.mk (K0.out.th hk2); have hk2 := Hd.mk hk2; clear hk1; dsimp only))
 go_loopw [4, 24] (fun v4 v14 wr => v4 = .slice (some ⟨w1.heap.size, 0, none⟩) 2 2 ∧ v14 = .int .i64 0 ∧ (w1.alloc (.cells #[.int .u8 4, .int .u8 0] 5)) = wr) (fun _ _ _ => 0)
 case atStart => exact ⟨rfl, rfl, rfl⟩
 case round =>
  obtain ⟨rfl, rfl, rfl⟩ := hrel
  go_wp2_with (first | ((with_reducible refine wl_lit1 rfl (.tmp 49) rfl 0 rfl ?_); intro v1 w2 hv1 hk1; have ho := Hd.mk ((ob2.out w1).keep hk1); have hs : Hd (w1.heap.size ≤ w2.heap.size) := ⟨Nat.le_trans (by show _ ≤ (w1.heap.push _).size; simp) hk1.size⟩; have hk3 := hk2.out.th hk1; have hv1 := Hd.mk hv1; have hk3 := Hd.mk hk3; clear hk1) | ((with_reducible refine wl_ob rfl (.tmp 45) (.tmp 50) rfl (.slice (some ⟨w1.heap.size, 0, none⟩) 2 2) [4, 0] rfl ho.out hs.out v1 [0] rfl hv1.out (by decide) ?_); intro v2 w3 hv2 hb2; obtain ⟨A2, c2, rfl, hc2⟩ := show ∃ A c, v2 = .slice A 3 c ∧ True from (by obtain ⟨A, c, e, _⟩ := hv2.bs; exact ⟨A, c, e, trivial⟩); have K3 : Hd (KZ (w.alloc (.cells #[.slice none 0 0, .slice none 0 0, .int .i64 4] 50)) w3) := ⟨wb_join hk3.out hk2.out hb2 hs0.out⟩; obtain ⟨g0, g1, g2⟩ := cc.out _ K3.out; have hv2 := Hd.mk hv2; clear hb2))
  go_loopw [4, 55] (fun v4 v14 wr => v4 = .slice A2 3 c2 ∧ v14 = .int .i64 0 ∧ w3 = wr) (fun _ _ _ => 0)
  case atStart => exact ⟨rfl, rfl, rfl⟩
  case round =>
   obtain ⟨rfl, rfl, rfl⟩ := hrel
   go_wp2_with fail
   go_ret2
   exact ⟨⟨_, rfl⟩, K0.out.th K3.out⟩
theorem check1_at (a : A) (hm : may a) (w : World) (At : Option Addr) (ct : Nat) (Ap : Option Addr) (cp : Nat) :
  Calls Tryz.prog 68 #[.agg #[.int .i64 a.d, .string ⟨a.k.toArray⟩, .slice At a.t.length ct, .int .i64 a.n, .slice Ap a.p.length cp]] w fun e w' => e = .returned (.bool false) ∧ KZ w w' := by
 have hc := Hd.mk (may_at a)
 rw [decide_eq_true hm] at hc
 clear hm
 obtain ⟨d, k, t, n, p⟩ := a
 simp only at *
 go_enter Tryz.func68, Tryz.ntmps68
 go_wp2_with (go_at_call 38; refine (hc.out _ At ct Ap cp).mono ?_; rintro e w1 ⟨rfl, hk1⟩; have K1 : Hd (KZ w w1) := ⟨((Kp.refl _ w).alloc _).th hk1⟩; clear hk1; dsimp only)
 go_ret
 exact ⟨rfl, K1.out⟩
set_option maxHeartbeats 1000000 in
theorem idx_one (a : A) (hm : may a) (w : World) (b : Nat) (At : Option Addr) (ct : Nat) (Ap : Option Addr) (cp : Nat) (hr : w.rangeAt b 0 [.int .i64 a.d, .string ⟨a.k.toArray⟩, .slice At a.t.length ct, .int .i64 a.n, .slice Ap a.p.length cp]) :
  Calls Tryz.prog 91 #[.slice (some ⟨b, 0, none⟩) 1 1, .func (.func 68) #[] #[]] w fun e w' => e = .returned (.int .i64 (-1)) ∧ KZ w w' := by
 have hc := Hd.mk (check1_at a hm)
 obtain ⟨d, k, t, n, p⟩ := a
 simp only at *
 have hr := Hd.mk hr
 clear hm
 go_enter Tryz.func91, Tryz.ntmps91
 go_wp2_with fail
 go_loopw [4, 8] (fun v4 v8 wr => (v8 = .int .i64 0 ∧ w = wr ∧ v4 = .int .i64 0) ∨ (v8 = .int .i64 1 ∧ Hd (KZ w wr) ∧ v4 = .int .i64 0)) (fun _ v8 _ => 1 - (intOf v8).toNat)
 case atStart => exact .inl ⟨rfl, rfl, rfl⟩
 case round =>
  rcases hrel with ⟨rfl, rfl, rfl⟩ | ⟨rfl, hk, rfl⟩
  ·go_wp2_with (first | (with_reducible refine wl_load_mid rfl 24 (.tmp 14) rfl b 0 rfl [.int .i64 d, .string ⟨k.toArray⟩, .slice At t.length ct, .int .i64 n, .slice Ap p.length cp] hr.out Tryz.underlying24 rfl (by kernel_rfl) ?_) | (go_at_call 68; refine (hc.out _ At ct Ap cp).mono ?_; rintro e w1 ⟨rfl, hk1⟩; have hk1 := Hd.mk hk1; dsimp only))
   exact ⟨.inr ⟨rfl, hk1, rfl⟩, by simp [intOf]⟩
  ·go_wp2_with fail
   go_ret
   exact ⟨rfl, hk.out⟩
theorem contains_one (a : A) (hm : may a) (w : World) (b : Nat) (At : Option Addr) (ct : Nat) (Ap : Option Addr) (cp : Nat) (hr : w.rangeAt b 0 [.int .i64 a.d, .string ⟨a.k.toArray⟩, .slice At a.t.length ct, .int .i64 a.n, .slice Ap a.p.length cp]) :
  Calls Tryz.prog 69 #[.slice (some ⟨b, 0, none⟩) 1 1, .func (.func 68) #[] #[]] w fun e w' => e = .returned (.bool false) ∧ KZ w w' := by
 have hc := Hd.mk (idx_one a hm w b At ct Ap cp hr)
 clear hr hm
 go_enter Tryz.func69, Tryz.ntmps69
 go_wp2_with (go_at_call 91; refine hc.out.mono ?_; rintro e w1 ⟨rfl, hk1⟩; have hk1 := Hd.mk hk1; dsimp only)
 go_ret
 exact ⟨rfl, hk1.out⟩
abbrev sv (b : Nat) : Value := .agg #[.int .i64 9, .int .i64 3, .slice none 0 0, .slice none 0 0, .int .i64 4, .slice (some ⟨b, 0, none⟩) 1 1]
theorem range_keep {w w' : World} {b o : Nat} {cs : List Value} (h : w.rangeAt b o cs) (hk : KZ w w') : w'.rangeAt b o cs := fun j v hv => hk.see (h j v hv) id
set_option maxHeartbeats 1000000 in
theorem scheck_one (a : A) (hm : may a) (w : World) (b : Nat) (At : Option Addr) (ct : Nat) (Ap : Option Addr) (cp : Nat) (hr : w.rangeAt b 0 [.int .i64 a.d, .string ⟨a.k.toArray⟩, .slice At a.t.length ct, .int .i64 a.n, .slice Ap a.p.length cp]) :
  Calls Tryz.prog 26 #[sv b] w fun e w' => e = .returned (.int .i64 0) ∧ KZ w w' := by
 have K0 : Hd (KZ w (w.alloc (.cells #[.int .i64 9, .int .i64 3, .slice none 0 0, .slice none 0 0, .int .i64 4, .slice (some ⟨b, 0, none⟩) 1 1] 53))) := ⟨(Kp.refl _ w).alloc _⟩
 have cc : Hd (∀ w1, KZ (w.alloc (.cells #[.int .i64 9, .int .i64 3, .slice none 0 0, .slice none 0 0, .int .i64 4, .slice (some ⟨b, 0, none⟩) 1 1] 53)) w1 → w1.cell? ⟨w.heap.size, 0, none⟩ = some (.int .i64 9) ∧ w1.cell? ⟨w.heap.size, 1, none⟩ = some (.int .i64 3) ∧ w1.cell? ⟨w.heap.size, 5, none⟩ = some (.slice (some ⟨b, 0, none⟩) 1 1)) :=
  ⟨fun w1 hk => ⟨hk.see (by rw [Lib.cell_of_heap (_root_.Go.heap_alloc_new w _)]; rfl) id, hk.see (by rw [Lib.cell_of_heap (_root_.Go.heap_alloc_new w _)]; rfl) id, hk.see (by rw [Lib.cell_of_heap (_root_.Go.heap_alloc_new w _)]; rfl) id⟩⟩
 have hc := Hd.mk (fun w1 (hk : KZ w w1) => contains_one a hm w1 b At ct Ap cp (range_keep hr hk))
 clear hr hm
 go_enter Tryz.func26, Tryz.ntmps26
 go_wp2_with (first | (go_at_call 67; refine (wbytes_nil _).mono ?_; rintro e w1 ⟨⟨vb, rfl⟩, hk1⟩; obtain ⟨d0, d1, d2⟩ := cc.out _ hk1; have K1 := Hd.mk (K0.out.th hk1); clear hk1; dsimp only) | (go_at_call 69; refine (hc.out _ K1.out).mono ?_; rintro e w2 ⟨rfl, hk2⟩; have K2 := Hd.mk (K1.out.th hk2); clear hk2; dsimp only))
 go_ret
 exact ⟨rfl, K2.out⟩
def pkI (ns : List Int) : List UInt8 := ns.flatMap fun z => 32 :: Lib.itoa z
theorem pkI_take {p : List Int} {j : Nat} {c : Int} (h : p[j]? = some c) : pkI (p.take (j + 1)) = pkI (p.take j) ++ (32 :: Lib.itoa c) := by
 obtain ⟨h1, rfl⟩ := List.getElem?_eq_some_iff.1 h
 unfold pkI
 rw [List.take_succ_eq_append_getElem h1, List.flatMap_append]
 simp only [List.flatMap_cons, List.flatMap_nil, List.append_nil]
def rowI (w : World) (r : Nat) (ns : List Int) : Prop := w.heap[r]? = some (.cells (ns.map (Value.int .i64)).toArray 3 (0, 0))
theorem rowI.keep {w w' : World} {r : Nat} {ns : List Int} (h : rowI w r ns) (hk : KZ w w') : rowI w' r ns := hk.keeps h id
theorem rowI.wr {w w' : World} {r B : Nat} {ns : List Int} (h : rowI w r ns) (hr : r ≠ B) (hk : Lib.OthersKept 5 (some B) w w') : rowI w' r ns :=
 hk r _ h (by simpa using hr) (by intro cs fz hf; cases hf)
theorem lx_str' {w1 wr : World} {B : Nat} {l : List UInt8} {c : Nat} (h : Lx w1 B wr l c) (s : List UInt8) (g : Nat) (hs : s.length ≤ g) (hg : g ≤ 100000) (hc : c ≤ 900000000) :
  Calls Tryz.prog 35 #[.pointer (some ⟨B, 0, none⟩), .string ⟨s.toArray⟩] wr fun e w' => (∃ x, e = .returned (.tuple #[x, .nilIface])) ∧ Lx w1 B w' (l ++ s) (c + g) ∧ Lib.OthersKept 5 (some B) wr w' := by
 refine (wstr_at h.bd ⟨s.toArray⟩ (by have := h.len; omega) (by rw [sz]; omega)).mono ?_
 rintro e w' ⟨he, h1, h2⟩
 exact ⟨he, ⟨h1, h.below.trans h2.below, by have := h.len; rw [List.length_append]; omega⟩, h2.others⟩
set_option maxHeartbeats 1000000 in
theorem print1_at {w1 wr : World} {B : Nat} {l : List UInt8} {c : Nat} (h : Lx w1 B wr l c) (hE : Ev w1) (hsz : w1.heap.size = B) (s : List UInt8) (g : Nat) (hs : s.length ≤ g) (hg : g ≤ 100000) (hc : c ≤ 800000000)
  (ns : List Int) (r : Nat) (hr : rowI wr r ns) (hrB : r ≠ B) (hn : ns.length ≤ 100) (hi : ∀ z ∈ ns, -9223372036854775808 ≤ z ∧ z ≤ 9223372036854775807) :
  Calls Tryz.prog 65 #[.string ⟨s.toArray⟩, .slice (some ⟨r, 0, none⟩) ns.length ns.length, .pointer (some ⟨B, 0, none⟩)] wr fun e w' => e = .returned (.tuple #[]) ∧ Lx w1 B w' (l ++ s ++ pkI ns ++ [10]) (c + g + 100 * ns.length + 1) := by
 have hy := Hd.mk (And.intro hs (And.intro hg hc))
 have hL := Hd.mk h
 have hE := Hd.mk hE
 have hr := Hd.mk hr
 have hi := Hd.mk hi
 have hrB := Hd.mk hrB
 have hsz := Hd.mk hsz
 have hn := Hd.mk hn
 clear h hs hg hc
 go_enter Tryz.func65, Tryz.ntmps65
 go_wp2_with (go_at_call 35; refine (lx_str' hL.out s g hy.out.1 hy.out.2.1 (by have := hy.out; omega)).mono ?_; rintro e w2 ⟨⟨x, rfl⟩, h2', h3⟩; have h2 := Hd.mk h2'; clear h2'; have hR : Hd (rowI w2 r ns) := ⟨hr.out.wr hrB.out h3⟩; clear h3; dsimp only)
 go_loopw [11] (fun v11 wr => ∃ j : Nat, v11 = .int .i64 j ∧ (j : Int) ≤ (ns.length : Int) ∧ Hd (Lx w1 B wr (l ++ s ++ pkI (ns.take j)) (c + g + 100 * j)) ∧ Hd (rowI wr r ns)) (fun v11 _ => ns.length - (intOf v11).toNat)
 case atStart => exact ⟨0, rfl, by omega, ⟨by simpa [pkI] using h2.out⟩, hR⟩
 case round =>
  clear hL h2 hr hR
  obtain ⟨j, rfl, hj, hL, hR⟩ := hrel
  by_cases hlt : j < ns.length
  ·have hlt2 : (j : Int) < ns.length := by omega
   have hc1 : wr.cell? ⟨r, j, none⟩ = some (.int .i64 ns[j]) := by
    rw [Lib.cell_of_heap hR.out]; simp [hlt]
   have hpj := Hd.mk (pkI_take (List.getElem?_eq_getElem hlt))
   have hz := Hd.mk (hi.out _ (List.getElem_mem hlt))
   generalize ns[j] = z at *
   have q1 := Lib.itoa_length_le z hz.out.1 hz.out.2
   have g4 : Hd ((32 :: Lib.itoa z).length ≤ 100) := ⟨by simp only [List.length_cons]; omega⟩
   have l4 : Hd (([32] : List UInt8).length + (Lib.itoa z).length ≤ 9000000000000000000) := ⟨by simp only [List.length_cons, List.length_nil]; omega⟩
   have b4 : Hd (c + g + 100 * j ≤ 900000000) := ⟨by have := hy.out; have := hn.out; omega⟩
   clear q1 hlt
   go_wp2_with (first | (go_at_call 41; refine (itoa_at z hz.out.1 hz.out.2 (hL.out.ev hsz.out hE.out)).mono ?_; rintro e w2 ⟨rfl, hk1⟩; have hB2 := Hd.mk (hL.out.keep hk1); have hR2 := Hd.mk (hR.out.keep hk1); clear hL hR hk1; dsimp only) | (with_reducible refine wl_run rfl (ex_scat _ 9 9 (.const (.string ⟨#[32]⟩)) (.tmp 16) rfl [32] (Lib.itoa z) l4.out rfl rfl) ?_) | (go_at_call 35; (with_reducible refine (lx_str' hB2.out _ _ g4.out (by omega) b4.out).mono ?_); rintro e w3 ⟨⟨x, rfl⟩, hB3, hO⟩; have hR3 := Hd.mk (hR2.out.wr hrB.out hO); clear hB2 hR2 hO; have hB3 := Hd.mk hB3; dsimp only))
   refine ⟨⟨j + 1, by go_num, by omega, ⟨?_⟩, hR3⟩, by simp [intOf]; omega⟩
   rw [hpj.out, ← List.append_assoc]
   exact hB3.out.le (by omega)
  ·have hk2 : (j : Int) = ns.length := by omega
   have hk3 : j = ns.length := by omega
   have hB2 : Hd (Lx w1 B wr (l ++ s ++ pkI ns) (c + g + 100 * ns.length)) := ⟨by
    have := hL.out
    rw [show ns.take j = ns by rw [hk3, List.take_length], hk3] at this
    exact this⟩
   have b4 : Hd (c + g + 100 * ns.length ≤ 900000000) := ⟨by have := hy.out; have := hn.out; omega⟩
   clear hk3 hlt hL
   go_wp2_with (go_at_call 59; refine (lx_byte hB2.out 10 10 (by decide) b4.out).mono ?_; rintro e w2 ⟨rfl, hB3⟩; clear hB2; have hB3 := Hd.mk hB3; dsimp only)
   go_end0
   exact ⟨rfl, hB3.out⟩
theorem print1_no {w1 wr : World} {B : Nat} {l : List UInt8} {c : Nat} (h : Lx w1 B wr l c) (s : List UInt8) (g : Nat) (hs : s.length ≤ g) (hg : g ≤ 100000) (hc : c ≤ 800000000) :
  Calls Tryz.prog 65 #[.string ⟨s.toArray⟩, .slice none 0 0, .pointer (some ⟨B, 0, none⟩)] wr fun e w' => e = .returned (.tuple #[]) ∧ Lx w1 B w' (l ++ s ++ [10]) (c + g + 1) := by
 have hy := Hd.mk (And.intro hs (And.intro hg hc))
 have hL := Hd.mk h
 clear h hs hg hc
 go_enter Tryz.func65, Tryz.ntmps65
 go_wp2_with (go_at_call 35; refine (lx_str hL.out s g hy.out.1 hy.out.2.1 (by have := hy.out; omega)).mono ?_; rintro e w2 ⟨⟨x, rfl⟩, h2⟩; have h2 := Hd.mk h2; dsimp only)
 go_loopw [11] (fun v11 wr => v11 = .int .i64 0 ∧ w2 = wr) (fun v11 _ => 0)
 case atStart => exact ⟨rfl, rfl⟩
 case round =>
  obtain ⟨rfl, rfl⟩ := hrel
  have b4 : Hd (c + g ≤ 900000000) := ⟨by have := hy.out; omega⟩
  go_wp2_with (go_at_call 59; refine (lx_byte h2.out 10 10 (by decide) b4.out).mono ?_; rintro e w3 ⟨rfl, hB3⟩; have hB3 := Hd.mk hB3; dsimp only)
  go_end0
  exact ⟨rfl, hB3.out⟩
end Go.Proofs.YtkcechpaeilaeaaGreatDoor
