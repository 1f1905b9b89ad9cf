/- Check of scripts: the program's and the document's. -/
import Derived.Test.YtkcechpaeilaeaaGreatDoorPc
import Derived.Test.YtkcechpaeilaeaaGreatDoorM2
import Derived.Test.YtkcechpaeilaeaaGreatDoorM3
namespace Go.Proofs.YtkcechpaeilaeaaGreatDoor
open Go.RowKit
set_option linter.unusedVariables false
set_option linter.unusedSimpArgs false
set_option maxRecDepth 100000
/-- Acts in memory. -/
def Ar (w : World) (v : Value) (ac : List A) : Prop := ∃ X c, v = .slice X ac.length c ∧ (ac = [] ∨ ∃ g o, X = some ⟨g, o, none⟩ ∧ ∀ i a, ac[i]? = some a → ∃ At ct Ap cp, w.rangeAt g (o + i * 5) [.int .i64 a.d, .string ⟨a.k.toArray⟩, .slice At a.t.length ct, .int .i64 a.n, .slice Ap a.p.length cp] ∧ Bs w (.slice At a.t.length ct) (ints a.t) ∧ Bs w (.slice Ap a.p.length cp) (ints a.p))
theorem rangez {w w' : World} {b o : Nat} {cs : List Value} (h : w.rangeAt b o cs) (hk : Kp (fun _ => False) w w') : w'.rangeAt b o cs := fun j v hv => hk.see (h j v hv) id
theorem Ar.keep {w w' : World} {v : Value} {ac : List A} (h : Ar w v ac) (hk : Kp (fun _ => False) w w') : Ar w' v ac := by
  obtain ⟨X, c, rfl, h⟩ := h
  refine ⟨X, c, rfl, ?_⟩
  rcases h with h | ⟨g, o, rfl, hr⟩
  · exact .inl h
  · refine .inr ⟨g, o, rfl, fun i a ha => ?_⟩
    obtain ⟨At, ct, Ap, cp, h1, h2, h3⟩ := hr i a ha
    exact ⟨At, ct, Ap, cp, rangez h1 hk, bs_kpz h2 hk, bs_kpz h3 hk⟩
theorem Ar.row {w : World} {X : Option Addr} {n c : Nat} {ac : List A} (h : Ar w (.slice X n c) ac) {i : Nat} {a : A} (ha : ac[i]? = some a) : ∃ g o, X = some ⟨g, o, none⟩ ∧ ∃ At ct Ap cp, w.rangeAt g (o + i * 5) [.int .i64 a.d, .string ⟨a.k.toArray⟩, .slice At a.t.length ct, .int .i64 a.n, .slice Ap a.p.length cp] ∧ Bs w (.slice At a.t.length ct) (ints a.t) ∧ Bs w (.slice Ap a.p.length cp) (ints a.p) := by
  obtain ⟨X', c', e, h⟩ := h
  injection e with e1
  subst e1
  rcases h with rfl | ⟨g, o, rfl, hr⟩
  · simp at ha
  · exact ⟨g, o, rfl, hr i a ha⟩
theorem isbad_at (a : A) (w : World) (At : Option Addr) (ct : Nat) (Ap : Option Addr) (cp : Nat) :
    Calls Tryz.prog 68 #[.agg #[.int .i64 a.d, .string ⟨a.k.toArray⟩, .slice At a.t.length ct, .int .i64 a.n, .slice Ap a.p.length cp]] w fun e w' => e = .returned (.bool (!decide (may a))) ∧ Kp (fun _ => False) w w' := by
  have hc := Hd.mk (may_at a)
  generalize decide (may a) = q at *
  obtain ⟨d, k, t, n, p⟩ := a
  simp only at *
  cases q <;> (
    go_enter Tryz.func68, Tryz.ntmps68
    go_wp2_with (go_at_call 38; refine (hc.out _ At ct Ap cp).mono ?_; rintro e w1 ⟨rfl, hk1⟩; have K1 : Hd (Kp (fun _ => False) w w1) := ⟨((Kp.refl _ w).alloc _).andThen hk1 (fun _ _ h => h)⟩; clear hk1; dsimp only)
    go_ret
    exact ⟨rfl, K1.out⟩)
theorem isbad_b (a : A) (q : Bool) (hq : decide (may a) = !q) (w : World) (At : Option Addr) (ct : Nat) (Ap : Option Addr) (cp : Nat) :
    Calls Tryz.prog 68 #[.agg #[.int .i64 a.d, .string ⟨a.k.toArray⟩, .slice At a.t.length ct, .int .i64 a.n, .slice Ap a.p.length cp]] w fun e w' => e = .returned (.bool q) ∧ Kp (fun _ => False) w w' := by
  have := isbad_at a w At ct Ap cp
  rwa [hq, Bool.not_not] at this
def allMay (ac : List A) : Prop := ∀ (i : Nat) (a : A), ac[i]? = some a → may a
def IxR (p : Prop) (w w' : World) (e : Ending) : Prop := (∃ z : Int, e = .returned (.int .i64 z) ∧ ((p ∧ z = -1) ∨ (¬ p ∧ 0 ≤ z))) ∧ Kp (fun _ => False) w w'
set_option maxHeartbeats 2000000 in
theorem idx_at (ac : List A) (w : World) (X : Option Addr) (c : Nat) (hn : ac.length ≤ 1000000) (hA : Ar w (.slice X ac.length c) ac) :
    Calls Tryz.prog 91 #[.slice X ac.length c, .func (.func 68) #[] #[]] w fun e w' => IxR (allMay ac) w w' e := by
  have HA := Hd.mk hA
  obtain ⟨n, hne⟩ : ∃ n, ac.length = n := ⟨_, rfl⟩
  rw [hne] at HA hn ⊢
  have hnq := Hd.mk hne
  clear hA hne
  go_enter Tryz.func91, Tryz.ntmps91
  go_wp2_with fail
  go_loopw [8] (fun v8 wr => ∃ k : Nat, v8 = .int .i64 k ∧ k ≤ n ∧ Hd (Kp (fun _ => False) w wr ∧ ∀ i a, i < k → ac[i]? = some a → may a)) (fun v8 _ => n - (intOf v8).toNat)
  case atStart => exact ⟨0, rfl, Nat.zero_le _, ⟨Kp.refl _ _, fun i a hi => absurd hi (Nat.not_lt_zero _)⟩⟩
  case round =>
    obtain ⟨k, rfl, hk, HK⟩ := hrel
    have hkb : (k : Int) + 1 ≤ 1000001 := by omega
    by_cases h1 : k < n
    · have hltI : (k : Int) < (n : Int) := by omega
      obtain ⟨a, ha⟩ : ∃ a, ac[k]? = some a := ⟨_, List.getElem?_eq_getElem (by rw [hnq.out]; exact h1)⟩
      obtain ⟨g, o, rfl, At, ct, Ap, cp, hr, _, _⟩ := (HA.out.keep HK.out.1).row ha
      have ha := Hd.mk ha
      have hr := Hd.mk hr
      obtain ⟨q, hq⟩ : ∃ q, Hd (decide (may a) = q) := ⟨_, ⟨rfl⟩⟩
      have hb := Hd.mk (isbad_b a (!q) (by rw [Bool.not_not]; exact hq.out))
      obtain ⟨d, k0, t, n0, p⟩ := a
      simp only at hr hb
      cases q <;> simp only [Bool.not_false, Bool.not_true] at hb
      · go_wp2_with (first | (with_reducible refine wl_load_mid rfl 24 (.tmp 14) rfl g (o + k * 5) rfl [.int .i64 d, .string ⟨k0.toArray⟩, .slice At t.length ct, .int .i64 n0, .slice Ap p.length cp] hr.out Tryz.underlying24 rfl (by kernel_rfl) ?_) | (go_at_call 68; refine (hb.out _ At ct Ap cp).mono ?_; rintro e w1 ⟨rfl, hk1⟩; have K1 := Hd.mk (HK.out.1.andThen hk1 (fun _ _ h => h)); clear hk1; dsimp only))
        go_ret
        exact ⟨⟨(k : Int), rfl, .inr ⟨fun h => of_decide_eq_false hq.out (h k _ ha.out), by omega⟩⟩, K1.out⟩
      · go_wp2_with (first | (with_reducible refine wl_load_mid rfl 24 (.tmp 14) rfl g (o + k * 5) rfl [.int .i64 d, .string ⟨k0.toArray⟩, .slice At t.length ct, .int .i64 n0, .slice Ap p.length cp] hr.out Tryz.underlying24 rfl (by kernel_rfl) ?_) | (go_at_call 68; refine (hb.out _ At ct Ap cp).mono ?_; rintro e w1 ⟨rfl, hk1⟩; have K1 := Hd.mk (HK.out.1.andThen hk1 (fun _ _ h => h)); clear hk1; dsimp only))
        exact ⟨⟨k + 1, by go_num, by omega, ⟨K1.out, fun i a' hi ha' => by
          by_cases e : i = k
          · subst e; rw [ha.out] at ha'; cases ha'; exact of_decide_eq_true hq.out
          · exact HK.out.2 i a' (by omega) ha'⟩⟩, by simp [intOf]; omega⟩
    · have hltI : ¬ (k : Int) < (n : Int) := by omega
      go_wp2_with fail
      go_ret
      exact ⟨⟨-1, rfl, .inl ⟨fun i a ha => HK.out.2 i a (by have := (List.getElem?_eq_some_iff.1 ha).1; have := hnq.out; omega) ha, rfl⟩⟩, HK.out.1⟩
theorem contains_at (ac : List A) (w : World) (X : Option Addr) (c : Nat) (hn : ac.length ≤ 1000000) (hA : Ar w (.slice X ac.length c) ac) :
    Calls Tryz.prog 69 #[.slice X ac.length c, .func (.func 68) #[] #[]] w fun e w' => BoR (¬ allMay ac) w w' e := by
  have hc := Hd.mk (idx_at ac w X c hn hA)
  clear hA hn
  generalize ac.length = n at *
  go_enter Tryz.func69, Tryz.ntmps69
  go_wp2_with fail
  refine hc.out.mono ?_
  rintro e w1 ⟨⟨z, rfl, hz⟩, hk1⟩
  have hk1 := Hd.mk hk1
  rcases hz with ⟨hp, rfl⟩ | ⟨hp, hz⟩
  · go_wp2_with fail
    go_ret
    exact ⟨⟨false, rfl, ⟨fun h => (by cases h), fun h => absurd hp h⟩⟩, hk1.out⟩
  · go_wp2_with fail
    go_ret
    exact ⟨⟨true, rfl, ⟨fun _ => hp, fun _ => rfl⟩⟩, hk1.out⟩
/-- A script. -/
structure Sc where
  pages : Int
  cache : Int
  fl : List Fo
  ss : List (List UInt8)
  cap : Int
  ac : List A
/-- Its parts are such ac a machine can hold. -/
structure Sc.small (s : Sc) : Prop where
  wf : ∀ x ∈ s.fl, (-2147483648 ≤ x.f ∧ x.f ≤ 2147483647) ∧ (-2147483648 ≤ x.t ∧ x.t ≤ 2147483647)
  ss : ∀ l ∈ s.ss, l.length ≤ 2000000
  ac : s.ac.length ≤ 1000000
structure ScR (w : World) (s : Sc) (AF : Option Addr) (cF : Nat) (AS : Option Addr) (cS : Nat) (AA : Option Addr) (cA : Nat) : Prop where
  fl : Fr w (.slice AF s.fl.length cF) s.fl
  ss : Wos w (.slice AS s.ss.length cS) s.ss
  ac : Ar w (.slice AA s.ac.length cA) s.ac
theorem ScR.keep {w w' : World} {s : Sc} {AF : Option Addr} {cF : Nat} {AS : Option Addr} {cS : Nat} {AA : Option Addr} {cA : Nat} (h : ScR w s AF cF AS cS AA cA) (hk : Kp (fun _ => False) w w') : ScR w' s AF cF AS cS AA cA := ⟨h.fl.keep hk, h.ss.keep hk, h.ac.keep hk⟩
theorem ex_acts {o : Oper} {a : Act} (w : World) (x : Operand) (ho : o.op = .fieldAddr 53 x 3) (b : Nat) (hx : a.eval x = .pointer (some ⟨b, 0, none⟩)) : (execOp a.eval o).run Tryz.prog w = .ok (.value (.pointer (some ⟨b, 5, none⟩))) w := er_field w 53 3 x ho b 0 0 5 5 rfl Tryz.underlying53 rfl (by kernel_rfl) rfl hx
def headOk (s : Sc) : Prop := (8 ≤ s.pages ∧ s.pages ≤ 2048) ∧ (2 ≤ s.cache ∧ s.cache ≤ 64) ∧ bOk s.fl s.ss s.cap
def scOk (s : Sc) : Prop := headOk s ∧ s.ac.length ≤ 400 ∧ allMay s.ac
theorem box6 (w w' : World) (a b c d e f : Value) (t : TypeId) (hk : Kp (fun _ => False) (w.alloc (.cells #[a, b, c, d, e, f] t)) w') :
    (w'.cell? ⟨w.heap.size, 0, none⟩ = some a ∧ w'.cell? ⟨w.heap.size, 1, none⟩ = some b ∧ w'.cell? ⟨w.heap.size, 2, none⟩ = some c ∧ w'.cell? ⟨w.heap.size, 3, none⟩ = some d ∧ w'.cell? ⟨w.heap.size, 4, none⟩ = some e ∧ w'.cell? ⟨w.heap.size, 5, none⟩ = some f) ∧ w'.rangeAt w.heap.size 0 [a, b, c, d, e, f] ∧ w'.rangeAt w.heap.size 2 [c, d, e] := by
  have h := _root_.Go.heap_alloc_new w (.cells #[a, b, c, d, e, f] t)
  have hc : ∀ i v, #[a, b, c, d, e, f][i]? = some v → w'.cell? ⟨w.heap.size, i, none⟩ = some v := fun i v hi => hk.see (by rw [Lib.cell_of_heap h]; exact hi) id
  refine ⟨⟨hc 0 _ rfl, hc 1 _ rfl, hc 2 _ rfl, hc 3 _ rfl, hc 4 _ rfl, hc 5 _ rfl⟩, fun j v hj => ?_, fun j v hj => ?_⟩
  · rw [Nat.zero_add]; exact hc j v (by simpa using hj)
  · match j, hj with
    | 0, hj => exact hc 2 v hj
    | 1, hj => exact hc 3 v hj
    | 2, hj => exact hc 4 v hj
set_option maxHeartbeats 8000000 in
theorem scheck_at {w : World} {AF AS AA : Option Addr} {cF cS cA : Nat} (s : Sc) (hs : s.small) (hR : ScR w s AF cF AS cS AA cA) :
    Calls Tryz.prog 26 #[.agg #[.int .i64 s.pages, .int .i64 s.cache, .slice AF s.fl.length cF, .slice AS s.ss.length cS, .int .i64 s.cap, .slice AA s.ac.length cA]] w fun e w' => CoR 270 (scOk s) w w' e := by
  obtain ⟨pages, cache, fl, ss, cap, ac⟩ := s
  obtain ⟨hwf, hss, has⟩ := hs
  obtain ⟨hF, hS, hA⟩ := hR
  simp only at hwf hss has hF hS hA ⊢
  obtain ⟨nf, hnf⟩ : ∃ n, fl.length = n := ⟨_, rfl⟩
  obtain ⟨ns, hns⟩ : ∃ n, ss.length = n := ⟨_, rfl⟩
  obtain ⟨na, hna⟩ : ∃ n, ac.length = n := ⟨_, rfl⟩
  obtain ⟨w1, hw1⟩ : ∃ w1, w.alloc (.cells #[.int .i64 pages, .int .i64 cache, .slice AF nf cF, .slice AS ns cS, .int .i64 cap, .slice AA na cA] 53) = w1 := ⟨_, rfl⟩
  have k01 : Hd (Kp (fun _ => False) w w1) := ⟨by rw [← hw1]; exact (Kp.refl _ w).alloc _⟩
  have hbx : Hd (∀ w', Kp (fun _ => False) w1 w' → (w'.cell? ⟨w.heap.size, 0, none⟩ = some (.int .i64 pages) ∧ w'.cell? ⟨w.heap.size, 1, none⟩ = some (.int .i64 cache) ∧ w'.cell? ⟨w.heap.size, 2, none⟩ = some (.slice AF nf cF) ∧ w'.cell? ⟨w.heap.size, 3, none⟩ = some (.slice AS ns cS) ∧ w'.cell? ⟨w.heap.size, 4, none⟩ = some (.int .i64 cap) ∧ w'.cell? ⟨w.heap.size, 5, none⟩ = some (.slice AA na cA)) ∧ w'.rangeAt w.heap.size 0 [.int .i64 pages, .int .i64 cache, .slice AF nf cF, .slice AS ns cS, .int .i64 cap, .slice AA na cA] ∧ w'.rangeAt w.heap.size 2 [.slice AF nf cF, .slice AS ns cS, .int .i64 cap]) := ⟨fun w' hk => by
    rw [← hw1] at hk
    exact box6 _ _ _ _ _ _ _ _ _ hk⟩

  have hwb := Hd.mk (wbytes_at (w := w1) fl ss cap hwf hss (hF.keep k01.out) (hS.keep k01.out))
  have HA := Hd.mk (fun w' (hk : Kp (fun _ => False) w1 w') => contains_at ac w' AA cA has (hA.keep (k01.out.andThen hk (fun _ _ h => h))))
  rw [hnf, hns] at hwb
  rw [hna] at HA
  rw [hnf, hns, hna]
  have hna' := Hd.mk hna
  clear hnf hns hna hwf hss has hF hS hA
  have br0 : Hd ((w.alloc (.cells #[.int .i64 pages, .int .i64 cache, .slice AF nf cF, .slice AS ns cS, .int .i64 cap, .slice AA na cA] 53)).rangeAt w.heap.size 2 [.slice AF nf cF, .slice AS ns cS, .int .i64 cap]) := ⟨by rw [hw1]; exact (hbx.out w1 (Kp.refl _ _)).2.2⟩
  have hwq := Hd.mk hw1
  clear hw1
  go_enter Tryz.func26, Tryz.ntmps26
  go_wp2_with (first | (with_reducible refine wl_load_mid rfl 50 (.tmp 7) rfl w.heap.size 2 rfl [.slice AF nf cF, .slice AS ns cS, .int .i64 cap] br0.out Tryz.underlying50 rfl (by kernel_rfl) ?_))
  rw [hwq.out]
  refine hwb.out.mono ?_
  rintro e w2 ⟨⟨vb, c, rfl, hc, hcc⟩, k2⟩
  have K2 := Hd.mk k2
  obtain ⟨⟨d0, d1, d2, d3, d4, d5⟩, _, _⟩ := hbx.out w2 k2
  have hc := Hd.mk hc
  clear k2 hwb br0
  by_cases hp1 : pages < 8
  · go_wp2_with fail
    go_ret
    exact ⟨.inr ⟨rfl, fun h => by have := h.1.1.1; simp only at this; omega⟩, k01.out.andThen K2.out (fun _ _ h => h)⟩
  by_cases hp2 : 2048 < pages
  · go_wp2_with fail
    go_ret
    exact ⟨.inr ⟨rfl, fun h => by have := h.1.1.2; simp only at this; omega⟩, k01.out.andThen K2.out (fun _ _ h => h)⟩
  by_cases hc1 : cache < 2
  · go_wp2_with fail
    go_ret
    exact ⟨.inr ⟨rfl, fun h => by have := h.1.2.1.1; simp only at this; omega⟩, k01.out.andThen K2.out (fun _ _ h => h)⟩
  by_cases hc2 : 64 < cache
  · go_wp2_with fail
    go_ret
    exact ⟨.inr ⟨rfl, fun h => by have := h.1.2.1.2; simp only at this; omega⟩, k01.out.andThen K2.out (fun _ _ h => h)⟩
  by_cases hc0 : c = 0
  rotate_left
  · have hcc := hcc.resolve_left hc0
    have hc0' := Hd.mk hc0
    clear hc0
    have hc0 := hc0'
    clear hc0'
    rcases hcc with rfl | rfl <;> (
      go_wp2_with fail
      go_ret
      exact ⟨.inr ⟨rfl, fun h => hc0.out (hc.out.2 h.1.2.2)⟩, k01.out.andThen K2.out (fun _ _ h => h)⟩)
  · have hcz := Hd.mk hc0
    clear hcc hc0
    have D0 := Hd.mk d0
    have q1 : Hd (decide (pages < 8) = false) := ⟨decide_eq_false hp1⟩
    have q2 : Hd (decide ((2048 : Int) < pages) = false) := ⟨decide_eq_false hp2⟩
    have q3 : Hd (decide (cache < 2) = false) := ⟨decide_eq_false hc1⟩
    have q4 : Hd (decide ((64 : Int) < cache) = false) := ⟨decide_eq_false hc2⟩
    have hh : Hd ((8 ≤ pages ∧ pages ≤ 2048) ∧ (2 ≤ cache ∧ cache ≤ 64)) := ⟨by omega⟩
    clear hp1 hp2 hc1 hc2
    by_cases h4 : 400 < na
    · have q5 : Hd (decide ((400 : Int) < (na : Int)) = true) := ⟨decide_eq_true (by omega)⟩
      have h4 := Hd.mk h4
      go_wp2_with (first | ((with_reducible refine wl_run rfl (ex_load _ 3 (.tmp 12) (.int .i64 pages) rfl ⟨w.heap.size, 0, none⟩ Tryz.underlying3 rfl rfl D0.out) ?_); obtain rfl : c = 0 := hcz.out; simp only [Act.put, spA, spB, spC]) | ((with_reducible refine wl_run rfl (ex_lss _ 3 3 (.tmp 13) (.const (.int .i64 8)) rfl .i64 pages 8 rfl rfl false q1.out) ?_); simp only [Act.put, spA, spB, spC]) | ((with_reducible refine wl_runG ?hw (ex_gtr _ 3 3 (.tmp 17) (.const (.int .i64 2048)) rfl .i64 pages 2048 rfl rfl false q2.out) ?_); (case hw => rfl); simp only [Act.put, spA, spB, spC]) | ((with_reducible refine wl_runG ?hw (ex_lss _ 3 3 (.tmp 22) (.const (.int .i64 2)) rfl .i64 cache 2 rfl rfl false q3.out) ?_); (case hw => rfl); simp only [Act.put, spA, spB, spC]) | ((with_reducible refine wl_runG ?hw (ex_gtr _ 3 3 (.tmp 27) (.const (.int .i64 64)) rfl .i64 cache 64 rfl rfl false q4.out) ?_); (case hw => rfl); simp only [Act.put, spA, spB, spC]) | ((with_reducible refine wl_runG ?hw (ex_gtr _ 3 3 (.tmp 37) (.const (.int .i64 400)) rfl .i64 (na : Int) 400 rfl rfl true q5.out) ?_); (case hw => rfl); simp only [Act.put, spA, spB, spC]))
      go_ret
      exact ⟨.inr ⟨rfl, fun h => by have := h.2.1; simp only at this; have := hna'.out; have := h4.out; omega⟩, k01.out.andThen K2.out (fun _ _ h => h)⟩
    · have q5 : Hd (decide ((400 : Int) < (na : Int)) = false) := ⟨decide_eq_false (by omega)⟩
      have h4 := Hd.mk h4
      have HCA := Hd.mk (HA.out w2 K2.out)
      go_wp2_with (first | ((with_reducible refine wl_run rfl (ex_load _ 3 (.tmp 12) (.int .i64 pages) rfl ⟨w.heap.size, 0, none⟩ Tryz.underlying3 rfl rfl D0.out) ?_); obtain rfl : c = 0 := hcz.out; simp only [Act.put, spA, spB, spC]) | ((with_reducible refine wl_run rfl (ex_lss _ 3 3 (.tmp 13) (.const (.int .i64 8)) rfl .i64 pages 8 rfl rfl false q1.out) ?_); simp only [Act.put, spA, spB, spC]) | ((with_reducible refine wl_runG ?hw (ex_gtr _ 3 3 (.tmp 17) (.const (.int .i64 2048)) rfl .i64 pages 2048 rfl rfl false q2.out) ?_); (case hw => rfl); simp only [Act.put, spA, spB, spC]) | ((with_reducible refine wl_runG ?hw (ex_lss _ 3 3 (.tmp 22) (.const (.int .i64 2)) rfl .i64 cache 2 rfl rfl false q3.out) ?_); (case hw => rfl); simp only [Act.put, spA, spB, spC]) | ((with_reducible refine wl_runG ?hw (ex_gtr _ 3 3 (.tmp 27) (.const (.int .i64 64)) rfl .i64 cache 64 rfl rfl false q4.out) ?_); (case hw => rfl); simp only [Act.put, spA, spB, spC]) | ((with_reducible refine wl_runG ?hw (ex_gtr _ 3 3 (.tmp 37) (.const (.int .i64 400)) rfl .i64 (na : Int) 400 rfl rfl false q5.out) ?_); (case hw => rfl); simp only [Act.put, spA, spB, spC]) | (go_at_call 69; refine HCA.out.mono ?_; rintro e w3 ⟨⟨b, rfl, hb⟩, k3⟩; have K3 := Hd.mk (K2.out.andThen k3 (fun _ _ h => h)); have hb := Hd.mk hb; clear k3; cases b <;> dsimp only))
      · go_ret
        exact ⟨.inl ⟨rfl, ⟨hh.out.1, hh.out.2, hc.out.1 (by trivial)⟩, by simp only; have := hna'.out; have := h4.out; omega, Classical.byContradiction fun hn => by have := hb.out.2 hn; cases this⟩, k01.out.andThen K3.out (fun _ _ h => h)⟩
      · go_ret
        exact ⟨.inr ⟨rfl, fun h => hb.out.1 (by trivial) h.2.2⟩, k01.out.andThen K3.out (fun _ _ h => h)⟩
set_option maxHeartbeats 8000000 in
theorem rhead_at {w : World} {AF AS AA : Option Addr} {cF cS cA : Nat} (s : Sc) (hs : s.small) (hR : ScR w s AF cF AS cS AA cA) :
    Calls Tryz.prog 70 #[.agg #[.int .i64 s.pages, .int .i64 s.cache, .slice AF s.fl.length cF, .slice AS s.ss.length cS, .int .i64 s.cap, .slice AA s.ac.length cA]] w fun e w' => BoR (headOk s) w w' e := by
  obtain ⟨pages, cache, fl, ss, cap, ac⟩ := s
  obtain ⟨hwf, hss, has⟩ := hs
  obtain ⟨hF, hS, hA⟩ := hR
  simp only at hwf hss has hF hS hA ⊢
  obtain ⟨nf, hnf⟩ : ∃ n, fl.length = n := ⟨_, rfl⟩
  obtain ⟨ns, hns⟩ : ∃ n, ss.length = n := ⟨_, rfl⟩
  obtain ⟨na, hna⟩ : ∃ n, ac.length = n := ⟨_, rfl⟩
  obtain ⟨w1, hw1⟩ : ∃ w1, w.alloc (.cells #[.int .i64 pages, .int .i64 cache, .slice AF nf cF, .slice AS ns cS, .int .i64 cap, .slice AA na cA] 53) = w1 := ⟨_, rfl⟩
  have k01 : Hd (Kp (fun _ => False) w w1) := ⟨by rw [← hw1]; exact (Kp.refl _ w).alloc _⟩
  have hbx : Hd (∀ w', Kp (fun _ => False) w1 w' → (w'.cell? ⟨w.heap.size, 0, none⟩ = some (.int .i64 pages) ∧ w'.cell? ⟨w.heap.size, 1, none⟩ = some (.int .i64 cache) ∧ w'.cell? ⟨w.heap.size, 2, none⟩ = some (.slice AF nf cF) ∧ w'.cell? ⟨w.heap.size, 3, none⟩ = some (.slice AS ns cS) ∧ w'.cell? ⟨w.heap.size, 4, none⟩ = some (.int .i64 cap) ∧ w'.cell? ⟨w.heap.size, 5, none⟩ = some (.slice AA na cA)) ∧ w'.rangeAt w.heap.size 0 [.int .i64 pages, .int .i64 cache, .slice AF nf cF, .slice AS ns cS, .int .i64 cap, .slice AA na cA] ∧ w'.rangeAt w.heap.size 2 [.slice AF nf cF, .slice AS ns cS, .int .i64 cap]) := ⟨fun w' hk => by
    rw [← hw1] at hk
    exact box6 _ _ _ _ _ _ _ _ _ hk⟩

  have hwb := Hd.mk (rbytes_at (w := w1) fl ss cap hwf hss (hF.keep k01.out) (hS.keep k01.out))
  rw [hnf, hns] at hwb
  rw [hnf, hns, hna]
  clear hnf hns hna hwf hss has hF hS hA
  have br0 : Hd ((w.alloc (.cells #[.int .i64 pages, .int .i64 cache, .slice AF nf cF, .slice AS ns cS, .int .i64 cap, .slice AA na cA] 53)).rangeAt w.heap.size 2 [.slice AF nf cF, .slice AS ns cS, .int .i64 cap]) := ⟨by rw [hw1]; exact (hbx.out w1 (Kp.refl _ _)).2.2⟩
  have hwq := Hd.mk hw1
  clear hw1
  go_enter Tryz.func70, Tryz.ntmps70
  go_wp2_with (first | (with_reducible refine wl_load_mid rfl 50 (.tmp 6) rfl w.heap.size 2 rfl [.slice AF nf cF, .slice AS ns cS, .int .i64 cap] br0.out Tryz.underlying50 rfl (by kernel_rfl) ?_))
  rw [hwq.out]
  refine hwb.out.mono ?_
  rintro e w2 ⟨⟨vb, c, rfl, hc, hcc⟩, k2⟩
  have K2 := Hd.mk k2
  obtain ⟨⟨d0, d1, d2, d3, d4, d5⟩, _, _⟩ := hbx.out w2 k2
  have hc := Hd.mk hc
  clear k2 hwb br0
  by_cases hp1 : (8 : Int) ≤ pages
  rotate_left
  · go_wp2_with fail
    go_ret
    exact ⟨⟨false, rfl, ⟨fun h => (by cases h), fun h => (by have := h.1.1; simp only at this; omega)⟩⟩, k01.out.andThen K2.out (fun _ _ h => h)⟩
  by_cases hp2 : pages ≤ 2048
  rotate_left
  · go_wp2_with fail
    go_ret
    exact ⟨⟨false, rfl, ⟨fun h => (by cases h), fun h => (by have := h.1.2; simp only at this; omega)⟩⟩, k01.out.andThen K2.out (fun _ _ h => h)⟩
  by_cases hc1 : (2 : Int) ≤ cache
  rotate_left
  · go_wp2_with fail
    go_ret
    exact ⟨⟨false, rfl, ⟨fun h => (by cases h), fun h => (by have := h.2.1.1; simp only at this; omega)⟩⟩, k01.out.andThen K2.out (fun _ _ h => h)⟩
  by_cases hc2 : cache ≤ 64
  rotate_left
  · go_wp2_with fail
    go_ret
    exact ⟨⟨false, rfl, ⟨fun h => (by cases h), fun h => (by have := h.2.1.2; simp only at this; omega)⟩⟩, k01.out.andThen K2.out (fun _ _ h => h)⟩
  by_cases hc0 : c = 0
  rotate_left
  · have hcc := hcc.resolve_left hc0
    have hc0' := Hd.mk hc0
    clear hc0
    have hc0 := hc0'
    clear hc0'
    rcases hcc with rfl | rfl <;> (
      go_wp2_with fail
      go_ret
      exact ⟨⟨false, rfl, ⟨fun h => (by cases h), fun h => absurd (hc.out.2 h.2.2) hc0.out⟩⟩, k01.out.andThen K2.out (fun _ _ h => h)⟩)
  · have hcz := Hd.mk hc0
    clear hcc hc0
    have D0 := Hd.mk d0
    have q1 : Hd (decide ((8 : Int) ≤ pages) = true) := ⟨decide_eq_true hp1⟩
    have q2 : Hd (decide (pages ≤ 2048) = true) := ⟨decide_eq_true hp2⟩
    have q3 : Hd (decide ((2 : Int) ≤ cache) = true) := ⟨decide_eq_true hc1⟩
    have q4 : Hd (decide (cache ≤ 64) = true) := ⟨decide_eq_true hc2⟩
    have hh : Hd ((8 ≤ pages ∧ pages ≤ 2048) ∧ (2 ≤ cache ∧ cache ≤ 64)) := ⟨⟨⟨hp1, hp2⟩, hc1, hc2⟩⟩
    clear hp1 hp2 hc1 hc2
    go_wp2_with (first | ((with_reducible refine wl_run rfl (ex_load _ 3 (.tmp 11) (.int .i64 pages) rfl ⟨w.heap.size, 0, none⟩ Tryz.underlying3 rfl rfl D0.out) ?_); obtain rfl : c = 0 := hcz.out; simp only [Act.put, spA, spB, spC]) | ((with_reducible refine wl_run rfl (ex_geq _ 3 3 (.tmp 12) (.const (.int .i64 8)) rfl .i64 pages 8 rfl rfl true q1.out) ?_); simp only [Act.put, spA, spB, spC]) | ((with_reducible refine wl_runG ?hw (ex_leq _ 3 3 (.tmp 16) (.const (.int .i64 2048)) rfl .i64 pages 2048 rfl rfl true q2.out) ?_); (case hw => rfl); simp only [Act.put, spA, spB, spC]) | ((with_reducible refine wl_runG ?hw (ex_geq _ 3 3 (.tmp 21) (.const (.int .i64 2)) rfl .i64 cache 2 rfl rfl true q3.out) ?_); (case hw => rfl); simp only [Act.put, spA, spB, spC]) | ((with_reducible refine wl_runG ?hw (ex_leq _ 3 3 (.tmp 26) (.const (.int .i64 64)) rfl .i64 cache 64 rfl rfl true q4.out) ?_); (case hw => rfl); simp only [Act.put, spA, spB, spC]))
    go_ret
    exact ⟨⟨true, rfl, ⟨fun _ => ⟨hh.out.1, hh.out.2, hc.out.1 (by trivial)⟩, fun _ => rfl⟩⟩, k01.out.andThen K2.out (fun _ _ h => h)⟩
set_option maxHeartbeats 8000000 in
theorem rscheck_at {w : World} {AF AS AA : Option Addr} {cF cS cA : Nat} (s : Sc) (hs : s.small) (hR : ScR w s AF cF AS cS AA cA) :
    Calls Tryz.prog 27 #[.agg #[.int .i64 s.pages, .int .i64 s.cache, .slice AF s.fl.length cF, .slice AS s.ss.length cS, .int .i64 s.cap, .slice AA s.ac.length cA]] w fun e w' => CoR 270 (scOk s) w w' e := by
  obtain ⟨pages, cache, fl, ss, cap, ac⟩ := s
  obtain ⟨hwf, hss, has⟩ := hs
  obtain ⟨hF, hS, hA⟩ := hR
  simp only at hwf hss has hF hS hA ⊢
  obtain ⟨nf, hnf⟩ : ∃ n, fl.length = n := ⟨_, rfl⟩
  obtain ⟨ns, hns⟩ : ∃ n, ss.length = n := ⟨_, rfl⟩
  obtain ⟨na, hna⟩ : ∃ n, ac.length = n := ⟨_, rfl⟩
  obtain ⟨w1, hw1⟩ : ∃ w1, w.alloc (.cells #[.int .i64 pages, .int .i64 cache, .slice AF nf cF, .slice AS ns cS, .int .i64 cap, .slice AA na cA] 53) = w1 := ⟨_, rfl⟩
  have k01 : Hd (Kp (fun _ => False) w w1) := ⟨by rw [← hw1]; exact (Kp.refl _ w).alloc _⟩
  have hbx : Hd (∀ w', Kp (fun _ => False) w1 w' → (w'.cell? ⟨w.heap.size, 0, none⟩ = some (.int .i64 pages) ∧ w'.cell? ⟨w.heap.size, 1, none⟩ = some (.int .i64 cache) ∧ w'.cell? ⟨w.heap.size, 2, none⟩ = some (.slice AF nf cF) ∧ w'.cell? ⟨w.heap.size, 3, none⟩ = some (.slice AS ns cS) ∧ w'.cell? ⟨w.heap.size, 4, none⟩ = some (.int .i64 cap) ∧ w'.cell? ⟨w.heap.size, 5, none⟩ = some (.slice AA na cA)) ∧ w'.rangeAt w.heap.size 0 [.int .i64 pages, .int .i64 cache, .slice AF nf cF, .slice AS ns cS, .int .i64 cap, .slice AA na cA] ∧ w'.rangeAt w.heap.size 2 [.slice AF nf cF, .slice AS ns cS, .int .i64 cap]) := ⟨fun w' hk => by
    rw [← hw1] at hk
    exact box6 _ _ _ _ _ _ _ _ _ hk⟩

  have hhd := Hd.mk (rhead_at (w := w1) ⟨pages, cache, fl, ss, cap, ac⟩ ⟨hwf, hss, has⟩ (ScR.keep (⟨hF, hS, hA⟩ : ScR w ⟨pages, cache, fl, ss, cap, ac⟩ AF cF AS cS AA cA) k01.out))
  have HA := Hd.mk (hA.keep k01.out)
  simp only at hhd
  rw [hnf, hns, hna] at hhd
  rw [hna] at HA has
  rw [hnf, hns, hna]
  have hna' := Hd.mk hna
  clear hnf hns hna hwf hss hF hS hA
  have br0 : Hd ((w.alloc (.cells #[.int .i64 pages, .int .i64 cache, .slice AF nf cF, .slice AS ns cS, .int .i64 cap, .slice AA na cA] 53)).rangeAt w.heap.size 0 [.int .i64 pages, .int .i64 cache, .slice AF nf cF, .slice AS ns cS, .int .i64 cap, .slice AA na cA]) := ⟨by rw [hw1]; exact (hbx.out w1 (Kp.refl _ _)).2.1⟩
  have hwq := Hd.mk hw1
  clear hw1
  go_enter Tryz.func27, Tryz.ntmps27
  go_wp2_with (first | (with_reducible refine wl_load_mid rfl 53 (.tmp 1) rfl w.heap.size 0 rfl [.int .i64 pages, .int .i64 cache, .slice AF nf cF, .slice AS ns cS, .int .i64 cap, .slice AA na cA] br0.out Tryz.underlying53 rfl (by kernel_rfl) ?_))
  rw [hwq.out]
  refine hhd.out.mono ?_
  rintro e w2 ⟨⟨b, rfl, hb⟩, k2⟩
  have K2 := Hd.mk k2
  obtain ⟨⟨d0, d1, d2, d3, d4, d5⟩, _, _⟩ := hbx.out w2 k2
  have hb := Hd.mk hb
  clear k2 hhd br0
  cases b
  · go_wp2_with fail
    go_ret
    exact ⟨.inr ⟨rfl, fun h => by have := hb.out.2 h.1; cases this⟩, k01.out.andThen K2.out (fun _ _ h => h)⟩
  · by_cases h4 : 400 < na
    · have q5 : Hd (decide ((400 : Int) < (na : Int)) = true) := ⟨decide_eq_true (by omega)⟩
      have h4 := Hd.mk h4
      go_wp2_with (first | ((refine wl_runG ?hw (ex_acts _ (.tmp 1) rfl w.heap.size rfl) ?_); (case hw => rfl); simp only [Act.put, spA, spB, spC]) | ((refine wl_runG ?hw (ex_load _ 51 (.tmp 8) (.slice AA na cA) rfl ⟨w.heap.size, 5, none⟩ Tryz.underlying51 rfl rfl d5) ?_); (case hw => rfl); simp only [Act.put, spA, spB, spC]) | ((refine wl_runG ?hw (ex_len _ 51 (.tmp 9) rfl Tryz.underlying51 AA na cA rfl) ?_); (case hw => rfl); simp only [Act.put, spA, spB, spC]) | ((refine wl_runG ?hw (ex_gtr _ 3 3 (.tmp 10) (.const (.int .i64 400)) rfl .i64 (na : Int) 400 rfl rfl true q5.out) ?_); (case hw => rfl); simp only [Act.put, spA, spB, spC]))
      go_ret
      exact ⟨.inr ⟨rfl, fun h => by have := h.2.1; simp only at this; have := hna'.out; have := h4.out; omega⟩, k01.out.andThen K2.out (fun _ _ h => h)⟩
    · have q5 : Hd (decide ((400 : Int) < (na : Int)) = false) := ⟨decide_eq_false (by omega)⟩
      have h4 := Hd.mk h4
      go_wp2_with (first | ((refine wl_runG ?hw (ex_acts _ (.tmp 1) rfl w.heap.size rfl) ?_); (case hw => rfl); simp only [Act.put, spA, spB, spC]) | ((refine wl_runG ?hw (ex_load _ 51 (.tmp 8) (.slice AA na cA) rfl ⟨w.heap.size, 5, none⟩ Tryz.underlying51 rfl rfl d5) ?_); (case hw => rfl); simp only [Act.put, spA, spB, spC]) | ((refine wl_runG ?hw (ex_len _ 51 (.tmp 9) rfl Tryz.underlying51 AA na cA rfl) ?_); (case hw => rfl); simp only [Act.put, spA, spB, spC]) | ((refine wl_runG ?hw (ex_gtr _ 3 3 (.tmp 10) (.const (.int .i64 400)) rfl .i64 (na : Int) 400 rfl rfl false q5.out) ?_); (case hw => rfl); simp only [Act.put, spA, spB, spC]))
      clear d0 d1 d2 d3 d4 d5
      go_loopw [3] (fun v3 wr => ∃ k : Nat, v3 = .int .i64 k ∧ k ≤ na ∧ Hd (Kp (fun _ => False) w1 wr ∧ ∀ i a, i < k → ac[i]? = some a → may a)) (fun v3 _ => na - (intOf v3).toNat)
      case atStart => exact ⟨0, rfl, Nat.zero_le _, ⟨K2.out, fun i a hi => absurd hi (Nat.not_lt_zero _)⟩⟩
      case round =>
        obtain ⟨k, rfl, hk, HK⟩ := hrel
        obtain ⟨⟨_, _, _, _, _, d5⟩, _, _⟩ := hbx.out wr HK.out.1
        by_cases h1 : k < na
        · have hltI : (k : Int) < (na : Int) := by omega
          obtain ⟨a, ha⟩ : ∃ a, ac[k]? = some a := ⟨_, List.getElem?_eq_getElem (by rw [hna'.out]; exact h1)⟩
          obtain ⟨g, o, rfl, At, ct, Ap, cp, hr, _, _⟩ := (HA.out.keep HK.out.1).row ha
          have hbb := Hd.mk (rmay_at a)
          have ha := Hd.mk ha
          have hr := Hd.mk hr
          obtain ⟨q, hq⟩ : ∃ q, Hd (decide (may a) = q) := ⟨_, ⟨rfl⟩⟩
          rw [hq.out] at hbb
          obtain ⟨d, k0, t, n0, p⟩ := a
          simp only at hr hbb
          cases q
          · go_wp2_with (first | ((refine wl_run rfl (ex_acts _ (.tmp 1) rfl w.heap.size rfl) ?_); simp only [Act.put, spA, spB, spC]) | ((refine wl_run rfl (ex_load _ 51 (.tmp 14) (.slice AA na cA) rfl ⟨w.heap.size, 5, none⟩ Tryz.underlying51 rfl rfl d5) ?_); simp only [Act.put, spA, spB, spC]) | ((refine wl_run rfl (ex_len _ 51 (.tmp 15) rfl Tryz.underlying51 AA na cA rfl) ?_); simp only [Act.put, spA, spB, spC]) | ((refine wl_run rfl (ex_load _ 51 (.tmp 20) (.slice AA na cA) rfl ⟨w.heap.size, 5, none⟩ Tryz.underlying51 rfl rfl d5) ?_); simp only [Act.put, spA, spB, spC]) | ((refine wl_run rfl (ex_load _ 51 (.tmp 14) (.slice (some ⟨g, o, none⟩) na cA) rfl ⟨w.heap.size, 5, none⟩ Tryz.underlying51 rfl rfl d5) ?_); simp only [Act.put, spA, spB, spC]) | ((refine wl_run rfl (ex_len _ 51 (.tmp 15) rfl Tryz.underlying51 (some ⟨g, o, none⟩) na cA rfl) ?_); simp only [Act.put, spA, spB, spC]) | ((refine wl_run rfl (ex_load _ 51 (.tmp 20) (.slice (some ⟨g, o, none⟩) na cA) rfl ⟨w.heap.size, 5, none⟩ Tryz.underlying51 rfl rfl d5) ?_); simp only [Act.put, spA, spB, spC]) | ((refine wl_run rfl (er_index _ 51 24 (.tmp 21) (.tmp 22) rfl 5 k Tryz.underlying51 (by kernel_rfl) g o na cA (o + k * 5) rfl rfl .i64 rfl h1) ?_); simp only [Act.put, spA, spB, spC]) | (with_reducible refine wl_load_mid rfl 24 (.tmp 23) rfl g (o + k * 5) rfl [.int .i64 d, .string ⟨k0.toArray⟩, .slice At t.length ct, .int .i64 n0, .slice Ap p.length cp] hr.out Tryz.underlying24 rfl (by kernel_rfl) ?_) | (go_at_call 44; refine (hbb.out _ At ct Ap cp).mono ?_; rintro e w3 ⟨rfl, hk1⟩; have K3 := Hd.mk (HK.out.1.andThen hk1 (fun _ _ h => h)); clear hk1; dsimp only))
            go_ret
            exact ⟨.inr ⟨rfl, fun h => of_decide_eq_false hq.out (h.2.2 k _ ha.out)⟩, k01.out.andThen K3.out (fun _ _ h => h)⟩
          · go_wp2_with (first | ((refine wl_run rfl (ex_acts _ (.tmp 1) rfl w.heap.size rfl) ?_); simp only [Act.put, spA, spB, spC]) | ((refine wl_run rfl (ex_load _ 51 (.tmp 14) (.slice AA na cA) rfl ⟨w.heap.size, 5, none⟩ Tryz.underlying51 rfl rfl d5) ?_); simp only [Act.put, spA, spB, spC]) | ((refine wl_run rfl (ex_len _ 51 (.tmp 15) rfl Tryz.underlying51 AA na cA rfl) ?_); simp only [Act.put, spA, spB, spC]) | ((refine wl_run rfl (ex_load _ 51 (.tmp 20) (.slice AA na cA) rfl ⟨w.heap.size, 5, none⟩ Tryz.underlying51 rfl rfl d5) ?_); simp only [Act.put, spA, spB, spC]) | ((refine wl_run rfl (ex_load _ 51 (.tmp 14) (.slice (some ⟨g, o, none⟩) na cA) rfl ⟨w.heap.size, 5, none⟩ Tryz.underlying51 rfl rfl d5) ?_); simp only [Act.put, spA, spB, spC]) | ((refine wl_run rfl (ex_len _ 51 (.tmp 15) rfl Tryz.underlying51 (some ⟨g, o, none⟩) na cA rfl) ?_); simp only [Act.put, spA, spB, spC]) | ((refine wl_run rfl (ex_load _ 51 (.tmp 20) (.slice (some ⟨g, o, none⟩) na cA) rfl ⟨w.heap.size, 5, none⟩ Tryz.underlying51 rfl rfl d5) ?_); simp only [Act.put, spA, spB, spC]) | ((refine wl_run rfl (er_index _ 51 24 (.tmp 21) (.tmp 22) rfl 5 k Tryz.underlying51 (by kernel_rfl) g o na cA (o + k * 5) rfl rfl .i64 rfl h1) ?_); simp only [Act.put, spA, spB, spC]) | (with_reducible refine wl_load_mid rfl 24 (.tmp 23) rfl g (o + k * 5) rfl [.int .i64 d, .string ⟨k0.toArray⟩, .slice At t.length ct, .int .i64 n0, .slice Ap p.length cp] hr.out Tryz.underlying24 rfl (by kernel_rfl) ?_) | (go_at_call 44; refine (hbb.out _ At ct Ap cp).mono ?_; rintro e w3 ⟨rfl, hk1⟩; have K3 := Hd.mk (HK.out.1.andThen hk1 (fun _ _ h => h)); clear hk1; dsimp only))
            exact ⟨⟨k + 1, by go_num, by omega, ⟨K3.out, fun i a' hi ha' => by
              by_cases e : i = k
              · subst e; rw [ha.out] at ha'; cases ha'; exact of_decide_eq_true hq.out
              · exact HK.out.2 i a' (by omega) ha'⟩⟩, by simp [intOf]; omega⟩
        · have hltI : ¬ (k : Int) < (na : Int) := by omega
          go_wp2_with (first | ((refine wl_run rfl (ex_acts _ (.tmp 1) rfl w.heap.size rfl) ?_); simp only [Act.put, spA, spB, spC]) | ((refine wl_run rfl (ex_load _ 51 (.tmp 14) (.slice AA na cA) rfl ⟨w.heap.size, 5, none⟩ Tryz.underlying51 rfl rfl d5) ?_); simp only [Act.put, spA, spB, spC]) | ((refine wl_run rfl (ex_len _ 51 (.tmp 15) rfl Tryz.underlying51 AA na cA rfl) ?_); simp only [Act.put, spA, spB, spC]) | ((refine wl_run rfl (ex_load _ 51 (.tmp 20) (.slice AA na cA) rfl ⟨w.heap.size, 5, none⟩ Tryz.underlying51 rfl rfl d5) ?_); simp only [Act.put, spA, spB, spC]) | ((refine wl_run rfl (ex_load _ 51 (.tmp 14) (.slice (some ⟨g, o, none⟩) na cA) rfl ⟨w.heap.size, 5, none⟩ Tryz.underlying51 rfl rfl d5) ?_); simp only [Act.put, spA, spB, spC]) | ((refine wl_run rfl (ex_len _ 51 (.tmp 15) rfl Tryz.underlying51 (some ⟨g, o, none⟩) na cA rfl) ?_); simp only [Act.put, spA, spB, spC]) | ((refine wl_run rfl (ex_load _ 51 (.tmp 20) (.slice (some ⟨g, o, none⟩) na cA) rfl ⟨w.heap.size, 5, none⟩ Tryz.underlying51 rfl rfl d5) ?_); simp only [Act.put, spA, spB, spC]))
          go_ret
          exact ⟨.inl ⟨rfl, hb.out.1 (by trivial), by simp only; have := hna'.out; have := h4.out; omega, fun i a ha => HK.out.2 i a (by have h5 : i < ac.length := (List.getElem?_eq_some_iff.1 ha).1; have := hna'.out; omega) ha⟩, k01.out.andThen HK.out.1 (fun _ _ h => h)⟩
end Go.Proofs.YtkcechpaeilaeaaGreatDoor
