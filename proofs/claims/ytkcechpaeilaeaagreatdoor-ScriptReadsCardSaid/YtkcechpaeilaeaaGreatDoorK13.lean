/- Joined out of: Pb. -/
import Derived.Test.YtkcechpaeilaeaaGreatDoorK12
import Derived.Test.YtkcechpaeilaeaaGreatDoorK1
import Derived.Test.YtkcechpaeilaeaaGreatDoorK4
import Derived.Lib.DecodeN
import Derived.Lib.OthersKept
set_option linter.unusedVariables false
set_option linter.unusedSimpArgs false
namespace Go.Proofs.YtkcechpaeilaeaaGreatDoor
open Go.RowKit
set_option maxRecDepth 20000
theorem rletter_b (r : Int) (b : Bool) (h : lett r = b) (w : World) : Calls Tryz.prog 137 #[.int .i32 r] w fun e w' => e = .returned (.bool b) ∧ w' = w := h ▸ rletter_at r w
def lst (l : List Fo) : Nat → Int
 | 0 => -1
 | k + 1 => match l[k]? with
  | some y => y.f + y.n - 1
  | none => 0
theorem Good1.not_lst {l : List Fo} {k : Nat} {x : Fo} (hx : l[k]? = some x) (h : x.f ≤ lst l k) : ¬ Good1 l k := fun hg => by
 obtain ⟨_, hb, _⟩ := hg.bd hx
 cases k with
 | zero =>
  have : x.f ≤ -1 := h
  omega
 | succ k =>
  cases hy : l[k]? with
  | none =>
   have hlt := (List.getElem?_eq_some_iff.1 hx).1
   rw [List.getElem?_eq_none_iff] at hy
   omega
  | some y =>
   have := (hg x hx).2.2 k y rfl hy
   simp only [lst, hy] at h
   omega
theorem Good1.mk {l : List Fo} {k : Nat} {x : Fo} (hx : l[k]? = some x) (h1 : 1 ≤ x.n ∧ x.n ≤ 256) (h2 : ∀ j : Nat, (j : Int) < x.n → lett (x.f + j) = true ∧ lett (x.t + j) = true) (h3 : ¬ x.f ≤ lst l k) : Good1 l k := by
 intro x' hx'
 rw [hx] at hx'
 cases hx'
 refine ⟨h1, h2, fun j y e hy => ?_⟩
 subst e
 simp only [lst, hy] at h3
 omega
set_option maxHeartbeats 8000000 in
theorem rcheck_at {w : World} {A : Option Addr} {c : Nat} (l : List Fo) (hwf : ∀ x ∈ l, (-2147483648 ≤ x.f ∧ x.f ≤ 2147483647) ∧ (-2147483648 ≤ x.t ∧ x.t ≤ 2147483647)) (hF : Fr w (.slice A l.length c) l) :
  Calls Tryz.prog 135 #[.slice A l.length c] w fun e w' => ((e = .returned (.int .i64 0) ∧ fchk l) ∨ (e = .returned (.int .i64 130) ∧ ¬ fchk l)) ∧ KZ w w' := by
 have HF := Hd.mk hF
 have Hwf := Hd.mk hwf
 obtain ⟨n, hn⟩ : ∃ n, l.length = n := ⟨_, rfl⟩
 rw [hn] at HF ⊢
 have hn := Hd.mk hn
 clear hF hwf
 by_cases h8 : n ≤ 8
 ·have h8I : ¬ (8 : Int) < (n : Int) := by omega
  go_enter Tryz.func135, Tryz.ntmps135
  go_wp2_with fail
  go_loopw [3, 4] (fun v3 v4 wr => ∃ k : Nat, v3 = .int .i64 (lst l k) ∧ v4 = .int .i64 k ∧ k ≤ n ∧ Hd (KZ w wr ∧ ∀ j, j < k → Good1 l j)) (fun _ v4 _ => n - (intOf v4).toNat)
  case atStart => exact ⟨0, rfl, rfl, Nat.zero_le _, ⟨Kp.refl _ _, fun j hj => absurd hj (Nat.not_lt_zero _)⟩⟩
  case round =>
   obtain ⟨k, rfl, rfl, hk, HK⟩ := hrel
   by_cases h1 : k < n
   ·have hltI : (k : Int) < (n : Int) := by omega
    obtain ⟨x, hx⟩ : ∃ x, l[k]? = some x := ⟨_, List.getElem?_eq_getElem (by rw [hn.out]; exact h1)⟩
    obtain ⟨g, o, rfl, d0, d1, d2⟩ := (HF.out.keep HK.out.1).cells hx
    obtain ⟨⟨o1, o2⟩, o3, o4⟩ := Hwf.out x (List.mem_of_getElem? hx)
    have hNG : Hd (∀ (P : Prop), (Good1 l k → P) → fchk l → P) := ⟨fun P hp h => hp (h.2.1 k (by rw [hn.out]; exact h1))⟩
    have hnl : Hd (x.f ≤ lst l k → ¬ Good1 l k) := ⟨fun h => Good1.not_lst hx h⟩
    have hmk : Hd ((1 ≤ x.n ∧ x.n ≤ 256) → (∀ j : Nat, (j : Int) < x.n → lett (x.f + j) = true ∧ lett (x.t + j) = true) → ¬ x.f ≤ lst l k → Good1 l k) := ⟨fun h1 h2 h3 => Good1.mk hx h1 h2 h3⟩
    have hbd : Hd (Good1 l k → (1 ≤ x.n ∧ x.n ≤ 256) ∧ (48 ≤ x.f ∧ x.f ≤ 1279) ∧ (48 ≤ x.t ∧ x.t ≤ 1279)) := ⟨fun h => h.bd hx⟩
    have hle : Hd (Good1 l k → ∀ j : Nat, (j : Int) < x.n → lett (x.f + j) = true ∧ lett (x.t + j) = true) := ⟨fun h => (h x hx).2.1⟩
    have hls : Hd (lst l (k + 1) = x.f + x.n - 1) := ⟨by simp only [lst, hx]⟩
    have hx := Hd.mk hx
    obtain ⟨f, t, m⟩ := x
    simp only at d0 d1 d2 o1 o2 o3 o4 hnl hmk hbd hle hls
    obtain ⟨la, hla⟩ : ∃ z, Hd (lst l k = z) := ⟨_, ⟨rfl⟩⟩
    rw [hla.out] at hnl hmk ⊢
    have hcv : Hd (IntKind.i64.wrap f = f) := ⟨w64 (by omega)⟩
    by_cases hm1 : m < 1
    ·skip
     go_wp2_with fail
     go_ret
     exact ⟨.inr ⟨rfl, hNG.out False (fun hg => by have := hbd.out hg; omega)⟩, HK.out.1⟩
    by_cases hm2 : 256 < m
    ·skip
     go_wp2_with fail
     go_ret
     exact ⟨.inr ⟨rfl, hNG.out False (fun hg => by have := hbd.out hg; omega)⟩, HK.out.1⟩
    by_cases hm3 : f ≤ la
    ·skip
     go_wp2_with (first | ((with_reducible refine wl_runG ?hw (ex_convz _ 21 3 (.tmp 36) rfl (by kernel_rfl) .i64 U3 .i32 f f rfl hcv.out) ?_); (case hw => rfl); simp only [Act.put, uA, uB, uC]))
     go_ret
     exact ⟨.inr ⟨rfl, hNG.out False (fun hg => by exact hnl.out hm3 hg)⟩, HK.out.1⟩
    by_cases hm4 : f < 0
    ·skip
     go_wp2_with (first | ((with_reducible refine wl_runG ?hw (ex_convz _ 21 3 (.tmp 36) rfl (by kernel_rfl) .i64 U3 .i32 f f rfl hcv.out) ?_); (case hw => rfl); simp only [Act.put, uA, uB, uC]))
     go_ret
     exact ⟨.inr ⟨rfl, hNG.out False (fun hg => by have := hbd.out hg; omega)⟩, HK.out.1⟩
    by_cases hm5 : 1279 < f
    ·skip
     go_wp2_with (first | ((with_reducible refine wl_runG ?hw (ex_convz _ 21 3 (.tmp 36) rfl (by kernel_rfl) .i64 U3 .i32 f f rfl hcv.out) ?_); (case hw => rfl); simp only [Act.put, uA, uB, uC]))
     go_ret
     exact ⟨.inr ⟨rfl, hNG.out False (fun hg => by have := hbd.out hg; omega)⟩, HK.out.1⟩
    by_cases hm6 : t < 0
    ·skip
     go_wp2_with (first | ((with_reducible refine wl_runG ?hw (ex_convz _ 21 3 (.tmp 36) rfl (by kernel_rfl) .i64 U3 .i32 f f rfl hcv.out) ?_); (case hw => rfl); simp only [Act.put, uA, uB, uC]))
     go_ret
     exact ⟨.inr ⟨rfl, hNG.out False (fun hg => by have := hbd.out hg; omega)⟩, HK.out.1⟩
    by_cases hm7 : 1279 < t
    ·skip
     go_wp2_with (first | ((with_reducible refine wl_runG ?hw (ex_convz _ 21 3 (.tmp 36) rfl (by kernel_rfl) .i64 U3 .i32 f f rfl hcv.out) ?_); (case hw => rfl); simp only [Act.put, uA, uB, uC]))
     go_ret
     exact ⟨.inr ⟨rfl, hNG.out False (fun hg => by have := hbd.out hg; omega)⟩, HK.out.1⟩
    obtain ⟨M, rfl⟩ : ∃ M : Nat, m = (M : Int) := ⟨m.toNat, by omega⟩
    go_wp2_with (first | ((with_reducible refine wl_runG ?hw (ex_convz _ 21 3 (.tmp 36) rfl (by kernel_rfl) .i64 U3 .i32 f f rfl hcv.out) ?_); (case hw => rfl); simp only [Act.put, uA, uB, uC]))
    obtain ⟨w1, hw1⟩ : ∃ w1, wr = w1 := ⟨_, rfl⟩
    go_loopw [5] (fun v5 w2 => ∃ q : Nat, v5 = .int .i64 q ∧ q ≤ M ∧ Hd (w2 = w1 ∧ ∀ j : Nat, j < q → lett (f + j) = true ∧ lett (t + j) = true)) (fun v5 _ => M - (intOf v5).toNat)
    case atStart => exact ⟨0, rfl, Nat.zero_le _, ⟨hw1, fun j hj => absurd hj (Nat.not_lt_zero _)⟩⟩
    case round =>
     obtain ⟨q, rfl, hq, HQ⟩ := hrel
     obtain ⟨hwe, hj⟩ := HQ.out
     have hj := Hd.mk hj
     subst hwe
     subst hw1
     clear HQ
     by_cases h3 : q < M
     ·have hqI : (q : Int) < (M : Int) := by omega
      obtain ⟨b3, hb3⟩ : ∃ b, Hd (lett (f + (q : Int)) = b) := ⟨_, ⟨rfl⟩⟩
      obtain ⟨b4, hb4⟩ : ∃ b, Hd (lett (t + (q : Int)) = b) := ⟨_, ⟨rfl⟩⟩
      have hz0 : Hd (IntKind.i32.wrap (q : Int) = (q : Int)) := ⟨w32 (by omega)⟩
      have hz1 : Hd (IntKind.i32.wrap (f + (q : Int)) = f + (q : Int)) := ⟨w32 (by omega)⟩
      have hz2 : Hd (IntKind.i32.wrap (t + (q : Int)) = t + (q : Int)) := ⟨w32 (by omega)⟩
      cases b3
      ·go_wp2_with (first | ((with_reducible refine wl_runG ?hw (ex_addk _ 21 21 (.tmp 86) (.tmp 88) rfl .i32 f (q : Int) rfl rfl (f + (q : Int)) hz1.out) ?_); (case hw => rfl); simp only [Act.put, uA, uB, uC]) | ((with_reducible refine wl_runG ?hw (ex_convz _ 3 21 (.tmp 87) rfl (by kernel_rfl) .i32 U21 .i64 (q : Int) (q : Int) rfl hz0.out) ?_); (case hw => rfl); simp only [Act.put, uA, uB, uC]) | (go_at_call 137; (first | with_reducible refine (rletter_b (f + (q : Int)) _ hb3.out _).mono ?_ | with_reducible refine (rletter_b (t + (q : Int)) _ hb4.out _).mono ?_); rintro e w' ⟨rfl, rfl⟩; dsimp only))
       go_ret
       exact ⟨.inr ⟨rfl, hNG.out False (fun hg => by have := (hle.out hg q hqI).1; rw [hb3.out] at this; cases this)⟩, HK.out.1⟩
      ·cases b4
       ·go_wp2_with (first | ((with_reducible refine wl_runG ?hw (ex_addk _ 21 21 (.tmp 86) (.tmp 88) rfl .i32 f (q : Int) rfl rfl (f + (q : Int)) hz1.out) ?_); (case hw => rfl); simp only [Act.put, uA, uB, uC]) | ((with_reducible refine wl_runG ?hw (ex_addk _ 21 21 (.tmp 97) (.tmp 99) rfl .i32 t (q : Int) rfl rfl (t + (q : Int)) hz2.out) ?_); (case hw => rfl); simp only [Act.put, uA, uB, uC]) | ((with_reducible refine wl_runG ?hw (ex_convz _ 3 21 (.tmp 87) rfl (by kernel_rfl) .i32 U21 .i64 (q : Int) (q : Int) rfl hz0.out) ?_); (case hw => rfl); simp only [Act.put, uA, uB, uC]) | ((with_reducible refine wl_runG ?hw (ex_convz _ 3 21 (.tmp 98) rfl (by kernel_rfl) .i32 U21 .i64 (q : Int) (q : Int) rfl hz0.out) ?_); (case hw => rfl); simp only [Act.put, uA, uB, uC]) | (go_at_call 137; (first | with_reducible refine (rletter_b (f + (q : Int)) _ hb3.out _).mono ?_ | with_reducible refine (rletter_b (t + (q : Int)) _ hb4.out _).mono ?_); rintro e w' ⟨rfl, rfl⟩; dsimp only))
        go_ret
        exact ⟨.inr ⟨rfl, hNG.out False (fun hg => by have := (hle.out hg q hqI).2; rw [hb4.out] at this; cases this)⟩, HK.out.1⟩
       ·go_wp2_with (first | ((with_reducible refine wl_runG ?hw (ex_addk _ 21 21 (.tmp 86) (.tmp 88) rfl .i32 f (q : Int) rfl rfl (f + (q : Int)) hz1.out) ?_); (case hw => rfl); simp only [Act.put, uA, uB, uC]) | ((with_reducible refine wl_runG ?hw (ex_addk _ 21 21 (.tmp 97) (.tmp 99) rfl .i32 t (q : Int) rfl rfl (t + (q : Int)) hz2.out) ?_); (case hw => rfl); simp only [Act.put, uA, uB, uC]) | ((with_reducible refine wl_runG ?hw (ex_convz _ 3 21 (.tmp 87) rfl (by kernel_rfl) .i32 U21 .i64 (q : Int) (q : Int) rfl hz0.out) ?_); (case hw => rfl); simp only [Act.put, uA, uB, uC]) | ((with_reducible refine wl_runG ?hw (ex_convz _ 3 21 (.tmp 98) rfl (by kernel_rfl) .i32 U21 .i64 (q : Int) (q : Int) rfl hz0.out) ?_); (case hw => rfl); simp only [Act.put, uA, uB, uC]) | (go_at_call 137; (first | with_reducible refine (rletter_b (f + (q : Int)) _ hb3.out _).mono ?_ | with_reducible refine (rletter_b (t + (q : Int)) _ hb4.out _).mono ?_); rintro e w' ⟨rfl, rfl⟩; dsimp only))
        exact ⟨⟨q + 1, by go_num, by omega, ⟨by simp, fun j hjq => by
         by_cases e : j = q
         ·subst e; exact ⟨hb3.out, hb4.out⟩
         ·exact hj.out j (by omega)⟩⟩, by simp [intOf]; omega⟩
     ·have hqI : ¬ (q : Int) < (M : Int) := by omega
      have hg := Hd.mk (hmk.out (by omega) (fun j hjm => hj.out j (by omega)) hm3)
      have hs1 : Hd (IntKind.i64.wrap (f + (M : Int)) = f + (M : Int)) := ⟨w64 (by omega)⟩
      have hs2 : Hd (IntKind.i64.wrap (f + (M : Int) - 1) = f + (M : Int) - 1) := ⟨w64 (by omega)⟩
      have hS : Hd ((fun W : World => W.cell? ⟨g, o + k * 3, none⟩ = some (.int .i32 f) ∧ W.cell? ⟨g, o + k * 3 + 2, none⟩ = some (.int .i64 (M : Int))) wr.drew) := ⟨⟨d0, d2⟩⟩
      clear hm1 hm2 hm3 hm4 hm5 hm6 hm7 d0 d1
      go_wp2_with fail
      refine rn_begin (fun W : World => W.cell? ⟨g, o + k * 3, none⟩ = some (.int .i32 f) ∧ W.cell? ⟨g, o + k * 3 + 2, none⟩ = some (.int .i64 (M : Int))) (List.range 14) (by kernel_rfl) ?_
      refine rnA 0 104 (.slice (some ⟨g, o, none⟩) n c) (rnM rfl rfl) hS.out ?_
      refine rnA 1 105 (.int .i64 ((k : Nat) : Int)) (rnM rfl rfl) hS.out ?_
      simp only [Act.put, uA, uB, uC]
      refine rnA 2 106 (.pointer (some ⟨g, o + k * 3, none⟩)) (erI 47 100 _ _ rfl 3 k U47 g o _ _ (o + k * 3)) hS.out ?_
      refine rnA 3 107 (.pointer (some ⟨g, o + k * 3, none⟩)) (erF 100 0 _ rfl g (o + k * 3) 0 0 (o + k * 3) Tryz.underlying100 rfl) hS.out ?_
      simp only [Act.put, uA, uB, uC]
      refine rnA 4 108 (.int .i32 f) (fun W hW => ex_load W 21 _ _ rfl ⟨g, o + k * 3, none⟩ U21 rfl rfl (hW.1)) hS.out ?_
      refine rnA 5 109 (.int .i64 (f)) (fun W hW => ex_convz W 21 3 _ rfl (by kernel_rfl) .i64 U3 .i32 f f rfl hcv.out) hS.out ?_
      simp only [Act.put, uA, uB, uC]
      refine rnA 6 110 (.slice (some ⟨g, o, none⟩) n c) (rnM rfl rfl) hS.out ?_
      refine rnA 7 111 (.int .i64 ((k : Nat) : Int)) (rnM rfl rfl) hS.out ?_
      simp only [Act.put, uA, uB, uC]
      refine rnA 8 112 (.pointer (some ⟨g, o + k * 3, none⟩)) (erI 47 100 _ _ rfl 3 k U47 g o _ _ (o + k * 3)) hS.out ?_
      refine rnA 9 113 (.pointer (some ⟨g, o + k * 3 + 2, none⟩)) (erF 100 2 _ rfl g (o + k * 3) 0 2 (o + k * 3 + 2) Tryz.underlying100 rfl) hS.out ?_
      simp only [Act.put, uA, uB, uC]
      refine rnA 10 114 (.int .i64 ((M : Int))) (fun W hW => ex_load W 3 _ _ rfl ⟨g, o + k * 3 + 2, none⟩ U3 rfl rfl (hW.2)) hS.out ?_
      refine rnA 11 115 (.int .i64 (f + (M : Int))) (fun W hW => ex_addk W 3 3 _ _ rfl .i64 f (M : Int) rfl rfl (f + (M : Int)) hs1.out) hS.out ?_
      simp only [Act.put, uA, uB, uC]
      refine rnA 12 116 (.int .i64 (f + (M : Int) - 1)) (fun W hW => ex_subk W 3 3 _ _ rfl .i64 (f + (M : Int)) 1 rfl rfl (f + (M : Int) - 1) hs2.out) hS.out ?_
      refine rnA 13 3 (.int .i64 (f + (M : Int) - 1)) (fun W hW => ex_assign W _ _ rfl rfl) hS.out ?_
      simp only [Act.put, uA, uB, uC]
      refine rn_done (by kernel_rfl) ?_ _
      clear hS
      go_wp2_with fail
      exact ⟨⟨k + 1, by rw [hls.out], by go_num, by omega, ⟨HK.out.1.drew, fun j hj1 => by
       by_cases e : j = k
       ·subst e; exact hg.out
       ·exact HK.out.2 j (by omega)⟩⟩, by simp [intOf]; omega⟩
   ·have hltI : ¬ (k : Int) < (n : Int) := by omega
    obtain rfl : k = n := by omega
    have hG := Hd.mk (show ∀ i, i < l.length → Good1 l i from fun i hi => HK.out.2 i (by have := hn.out; omega))
    have hok := Hd.mk (fok_of hG.out)
    have KE := Hd.mk HK.out.1
    have h8' := h8
    generalize lst l k = la
    clear HK h8I h8
    go_wp2_with fail
    go_loopw [6] (fun v6 w2 => ∃ i : Nat, v6 = .int .i64 i ∧ i ≤ k ∧ Hd (KZ w w2 ∧ ∀ j, j < i → Good2 l j)) (fun v6 _ => k - (intOf v6).toNat)
    case atStart => exact ⟨0, rfl, Nat.zero_le _, ⟨KE.out, fun j hj => absurd hj (Nat.not_lt_zero _)⟩⟩
    case round =>
     obtain ⟨i, rfl, hi, HI⟩ := hrel
     by_cases h1 : i < k
     ·have hltI : (i : Int) < (k : Int) := by omega
      obtain ⟨x, hx⟩ : ∃ x, l[i]? = some x := ⟨_, List.getElem?_eq_getElem (by rw [hn.out]; exact h1)⟩
      obtain ⟨g, o, rfl, d0, d1, d2⟩ := (HF.out.keep HI.out.1).cells hx
      obtain ⟨q1, q2, q3⟩ := (hG.out i (by rw [hn.out]; exact h1)).bd hx
      have hx := Hd.mk hx
      obtain ⟨f, t, m⟩ := x
      simp only at d0 d1 d2 q1 q2 q3
      obtain ⟨M, rfl⟩ : ∃ M : Nat, m = (M : Int) := ⟨m.toNat, by omega⟩
      have D1 := Hd.mk d1
      have D2 := Hd.mk d2
      clear d0 d1 d2
      obtain ⟨w1, hw1⟩ : ∃ w1, wr = w1 := ⟨_, rfl⟩
      have hw1 := Hd.mk hw1
      rw [hw1.out] at D1 D2 HI
      go_wp2_with fail
      go_loopw [7] (fun v7 w2 => ∃ q : Nat, v7 = .int .i64 q ∧ q ≤ M ∧ Hd (KZ w1 w2 ∧ ∀ j : Nat, j < q → fidx l (t + j) = none)) (fun v7 _ => M - (intOf v7).toNat)
      case atStart => exact ⟨0, rfl, Nat.zero_le _, ⟨Kp.refl _ _, fun j hj => absurd hj (Nat.not_lt_zero _)⟩⟩
      case round =>
       obtain ⟨q, rfl, hq, HQ⟩ := hrel
       have d1 := HQ.out.1.see D1.out id
       have d2 := HQ.out.1.see D2.out id
       have K2 := Hd.mk (HI.out.1.th HQ.out.1)
       by_cases h3 : q < M
       ·have hqI : (q : Int) < (M : Int) := by omega
        have hz0 : Hd (IntKind.i32.wrap (q : Int) = (q : Int)) := ⟨w32 (by omega)⟩
        have hz2 : Hd (IntKind.i32.wrap (t + (q : Int)) = t + (q : Int)) := ⟨w32 (by omega)⟩
        have hfo := Hd.mk (rfolds_at (c := c) l (t + (q : Int)) (by omega) (by have := hn.out; omega) (by rw [hn.out]; exact HF.out.keep K2.out) hok.out)
        rw [hn.out] at hfo
        go_wp2_with (first | ((with_reducible refine wl_run rfl (ex_addk _ 21 21 (.tmp 137) (.tmp 139) rfl .i32 t (q : Int) rfl rfl (t + (q : Int)) hz2.out) ?_)) | ((with_reducible refine wl_run rfl (ex_convz _ 3 21 (.tmp 138) rfl (by kernel_rfl) .i32 U21 .i64 (q : Int) (q : Int) rfl hz0.out) ?_)) | (go_at_call 151; refine hfo.out.mono ?_; rintro e w3 ⟨he, hk3⟩; have K3 := Hd.mk (K2.out.th hk3); have HK3 := Hd.mk (HQ.out.1.th hk3); clear hk3 d1 d2; rcases he with ⟨hne, rfl⟩ | ⟨k3, hne, rfl⟩ <;> have hne := Hd.mk hne <;> dsimp only))
        ·exact ⟨⟨q + 1, by go_num, by omega, ⟨HK3.out, fun j hjq => by
          by_cases e : j = q
          ·subst e; exact hne.out
          ·exact HQ.out.2 j (by omega)⟩⟩, by simp [intOf]; omega⟩
        ·have hk30 : (0 : Int) ≤ (k3 : Int) := by omega
         go_wp2_with fail
         go_ret
         exact ⟨.inr ⟨rfl, fun h => by
          have := h.2.2 i (by rw [hn.out]; exact h1) _ hx.out q (by simpa using hqI)
          rw [hne.out] at this
          cases this⟩, K3.out⟩
       ·have hqI : ¬ (q : Int) < (M : Int) := by omega
        go_wp2_with fail
        exact ⟨⟨i + 1, by go_num, by omega, ⟨K2.out, fun j hj1 => by
         by_cases e : j = i
         ·subst e
          intro x' hx' z hz
          rw [hx.out] at hx'
          cases hx'
          exact HQ.out.2 z (by simp only at hz; omega)
         ·exact HI.out.2 j (by omega)⟩⟩, by simp [intOf]; omega⟩
     ·have hltI : ¬ (i : Int) < (k : Int) := by omega
      go_wp2_with fail
      go_ret
      exact ⟨.inl ⟨rfl, by have := hn.out; omega, hG.out, fun j hj => HI.out.2 j (by have := hn.out; omega)⟩, HI.out.1⟩
 ·have h8I : (8 : Int) < (n : Int) := by omega
  go_enter Tryz.func135, Tryz.ntmps135
  go_wp2_with fail
  go_ret
  exact ⟨.inr ⟨rfl, fun h => h8 (by rw [← hn.out]; exact h.1)⟩, Kp.refl _ _⟩
end Go.Proofs.YtkcechpaeilaeaaGreatDoor
namespace Go.Proofs.YtkcechpaeilaeaaGreatDoor
open Go.RowKit
set_option maxRecDepth 20000
def fone (l : List Fo) (r : Int) : Int := match fidx l r with
 | some k => match l[k]? with
  | some x => x.t + (r - x.f)
  | none => r
 | none => r
theorem fone_none {l : List Fo} {r : Int} (h : fidx l r = none) : fone l r = r := by
 unfold fone
 simp only [h]
theorem fone_some {l : List Fo} {r : Int} {k : Nat} {x : Fo} (h : fidx l r = some k) (hx : l[k]? = some x) : fone l r = x.t + (r - x.f) := by
 unfold fone
 simp only [h, hx]
set_option maxHeartbeats 2000000 in
theorem one_at {w : World} {A : Option Addr} {c : Nat} (l : List Fo) (r : Int) (hr : -2147483648 ≤ r ∧ r ≤ 2147483647) (hl : l.length ≤ 1000000000) (hF : Fr w (.slice A l.length c) l) (hok : Fok l) :
  Calls Tryz.prog 157 #[.slice A l.length c, .int .i32 r] w fun e w' => e = .returned (.int .i32 (fone l r)) ∧ KZ w w' := by
 have hfo := Hd.mk (folds_at l r hr.2 hl hF hok)
 have HF := Hd.mk hF
 have Hok := Hd.mk hok
 have Hr := Hd.mk hr
 obtain ⟨z, hz⟩ : ∃ z, Hd (fone l r = z) := ⟨_, ⟨rfl⟩⟩
 rw [hz.out]
 obtain ⟨n, hn⟩ : ∃ n, l.length = n := ⟨_, rfl⟩
 rw [hn] at HF hfo ⊢
 clear hF hok hr hl
 go_enter Tryz.func157, Tryz.ntmps157
 go_wp2_with fail
 refine hfo.out.mono ?_
 rintro e w1 ⟨⟨hi, rfl⟩ | ⟨k, g, o, hi, rfl, rfl⟩, hk⟩
 ·have hzr : z = r := by rw [← hz.out]; exact fone_none hi
  subst hzr
  clear hi
  go_wp2_with fail
  go_ret
  exact ⟨rfl, hk⟩
 ·obtain ⟨x, hx, hh⟩ := fidx_hit hi
  have hzr : x.t + (r - x.f) = z := by rw [← hz.out]; exact (fone_some hi hx).symm
  obtain ⟨g', o', hA, c1, c2, _⟩ := (HF.out.keep hk).cells hx
  cases hA
  obtain ⟨q1, q2, q3⟩ := Hok.out x (List.mem_of_getElem? hx)
  have hh := of_decide_eq_true hh
  have hk := Hd.mk hk
  obtain ⟨f, t, m⟩ := x
  simp only at hzr c1 c2 q1 q2 q3 hh
  have hs1 : Hd (IntKind.i32.wrap (r - f) = r - f) := ⟨w32 (by have := Hr.out; omega)⟩
  have hs2 : Hd (IntKind.i32.wrap (t + (r - f)) = z) := ⟨by rw [w32 (by omega)]; exact hzr⟩
  have hS : Hd ((fun W : World => W.cell? ⟨g, o + k * 3, none⟩ = some (.int .i32 f) ∧ W.cell? ⟨g, o + k * 3 + 1, none⟩ = some (.int .i32 t)) w1.drew) := ⟨⟨c1, c2⟩⟩
  clear hx hi hh hzr q1 q2 q3 c1 c2 hfo
  go_wp2_with fail
  refine rn_begin (fun W : World => W.cell? ⟨g, o + k * 3, none⟩ = some (.int .i32 f) ∧ W.cell? ⟨g, o + k * 3 + 1, none⟩ = some (.int .i32 t)) (List.range 12) (by kernel_rfl) ?_
  refine rnA 0 11 (.pointer (some ⟨g, o + k * 3, none⟩)) (rnM rfl rfl) hS.out ?_
  refine rnA 1 12 (.pointer (some ⟨g, o + k * 3, none⟩)) (fun W hW => ex_nilCheck W _ _ rfl rfl) hS.out ?_
  simp only [Act.put, uA, uB, uC]
  refine rnA 2 13 (.pointer (some ⟨g, o + k * 3 + 1, none⟩)) (erF 100 1 _ rfl g (o + k * 3) 0 1 (o + k * 3 + 1) Tryz.underlying100 rfl) hS.out ?_
  refine rnA 3 14 (.int .i32 t) (fun W hW => ex_load W 21 _ _ rfl ⟨g, o + k * 3 + 1, none⟩ U21 rfl rfl (hW.2)) hS.out ?_
  simp only [Act.put, uA, uB, uC]
  refine rnA 4 15 (.int .i32 r) (rnM rfl rfl) hS.out ?_
  refine rnA 5 16 (.pointer (some ⟨g, o + k * 3, none⟩)) (rnM rfl rfl) hS.out ?_
  simp only [Act.put, uA, uB, uC]
  refine rnA 6 17 (.pointer (some ⟨g, o + k * 3, none⟩)) (fun W hW => ex_nilCheck W _ _ rfl rfl) hS.out ?_
  refine rnA 7 18 (.pointer (some ⟨g, o + k * 3, none⟩)) (erF 100 0 _ rfl g (o + k * 3) 0 0 (o + k * 3) Tryz.underlying100 rfl) hS.out ?_
  simp only [Act.put, uA, uB, uC]
  refine rnA 8 19 (.int .i32 f) (fun W hW => ex_load W 21 _ _ rfl ⟨g, o + k * 3, none⟩ U21 rfl rfl (hW.1)) hS.out ?_
  refine rnA 9 20 (.int .i32 (r - f)) (fun W hW => ex_subk W 21 21 _ _ rfl .i32 r f rfl rfl (r - f) hs1.out) hS.out ?_
  simp only [Act.put, uA, uB, uC]
  refine rnA 10 21 (.int .i32 z) (fun W hW => ex_addk W 21 21 _ _ rfl .i32 t (r - f) rfl rfl z hs2.out) hS.out ?_
  refine rnA 11 4 (.int .i32 z) (fun W hW => ex_assign W _ _ rfl rfl) hS.out ?_
  simp only [Act.put, uA, uB, uC]
  refine rn_done (by kernel_rfl) ?_ _
  clear hS
  go_wp2_with fail
  go_ret
  exact ⟨rfl, hk.out.drew⟩
set_option maxHeartbeats 2000000 in
theorem rune_at {w : World} {A : Option Addr} {c : Nat} (l : List Fo) (r : Int) (hr : -2147483648 ≤ r ∧ r ≤ 2147483647) (hF : Fr w (.slice A l.length c) l) (hck : fchk l) :
  Calls Tryz.prog 150 #[.slice A l.length c, .int .i32 r] w fun e w' => e = .returned (.int .i32 (fone l r)) ∧ KZ w w' := by
 have hok := Hd.mk (fok_of hck.2.1)
 have hwf : ∀ x ∈ l, (-2147483648 ≤ x.f ∧ x.f ≤ 2147483647) ∧ (-2147483648 ≤ x.t ∧ x.t ≤ 2147483647) := fun x hx => by
  have := hok.out x hx
  omega
 have hch := Hd.mk (fcheck_at l hwf hF)
 have hon := Hd.mk (fun w1 (hk : KZ w w1) => one_at (w := w1) l r hr (by have := hck.1; omega) (hF.keep hk) hok.out)
 have hck := Hd.mk hck
 generalize fone l r = z at *
 generalize l.length = n at *
 clear hwf hF
 go_enter Tryz.func150, Tryz.ntmps150
 go_wp2_with fail
 refine hch.out.mono ?_
 rintro e w1 ⟨⟨rfl, _⟩ | ⟨_, h⟩, hk⟩
 ·have hk := Hd.mk hk
  go_wp2_with (first | (go_at_call 157; refine (hon.out w1 hk.out).mono ?_; rintro e w2 ⟨rfl, hk2⟩; have K2 := Hd.mk (hk.out.th hk2); clear hk2; dsimp only))
  go_ret
  exact ⟨rfl, K2.out⟩
 ·exact absurd hck.out h
set_option maxHeartbeats 2000000 in
theorem rrune_at {w : World} {A : Option Addr} {c : Nat} (l : List Fo) (r : Int) (hr : -2147483648 ≤ r ∧ r ≤ 2147483647 - 1279) (hF : Fr w (.slice A l.length c) l) (hck : fchk l) :
  Calls Tryz.prog 138 #[.slice A l.length c, .int .i32 r] w fun e w' => e = .returned (.int .i32 (fone l r)) ∧ KZ w w' := by
 have hok := Hd.mk (fok_of hck.2.1)
 have hwf : ∀ x ∈ l, (-2147483648 ≤ x.f ∧ x.f ≤ 2147483647) ∧ (-2147483648 ≤ x.t ∧ x.t ≤ 2147483647) := fun x hx => by
  have := hok.out x hx
  omega
 have hch := Hd.mk (rcheck_at l hwf hF)
 have hon := Hd.mk (fun w1 (hk : KZ w w1) => rfolds_at (w := w1) l r (by omega) (by have := hck.1; omega) (hF.keep hk) hok.out)
 have hck := Hd.mk hck
 have HF := Hd.mk hF
 have Hr := Hd.mk hr
 obtain ⟨z, hz⟩ : ∃ z, Hd (fone l r = z) := ⟨_, ⟨rfl⟩⟩
 rw [hz.out]
 obtain ⟨n, hn⟩ : ∃ n, l.length = n := ⟨_, rfl⟩
 rw [hn] at HF hch hon ⊢
 clear hwf hF hr
 go_enter Tryz.func138, Tryz.ntmps138
 go_wp2_with fail
 refine hch.out.mono ?_
 rintro e w1 ⟨⟨rfl, _⟩ | ⟨_, h⟩, hk⟩
 ·have hk := Hd.mk hk
  go_wp2_with fail
  refine (hon.out w1 hk.out).mono ?_
  rintro e w2 ⟨⟨hi, rfl⟩ | ⟨k, hi, rfl⟩, hk2⟩
  ·have hzr : z = r := by rw [← hz.out]; exact fone_none hi
   subst hzr
   have K2 := Hd.mk (hk.out.th hk2)
   clear hi hk2 hon
   go_wp2_with fail
   go_ret
   exact ⟨rfl, K2.out⟩
  ·obtain ⟨x, hx, hh⟩ := fidx_hit hi
   have K2 := Hd.mk (hk.out.th hk2)
   have hzr : x.t + (r - x.f) = z := by rw [← hz.out]; exact (fone_some hi hx).symm
   obtain ⟨g, o, rfl, c1, c2, _⟩ := (HF.out.keep K2.out).cells hx
   obtain ⟨q1, q2, q3⟩ := hok.out x (List.mem_of_getElem? hx)
   have hh := of_decide_eq_true hh
   have hkl : k < n := by rw [← hn]; exact (List.getElem?_eq_some_iff.1 hx).1
   obtain ⟨f, t, m⟩ := x
   simp only at hzr c1 c2 q1 q2 q3 hh
   have hs1 : Hd (IntKind.i32.wrap (t + r) = t + r) := ⟨w32 (by have := Hr.out; omega)⟩
   have hs2 : Hd (IntKind.i32.wrap (t + r - f) = z) := ⟨by rw [w32 (by have := Hr.out; omega)]; omega⟩
   have hS : Hd ((fun W : World => W.cell? ⟨g, o + k * 3, none⟩ = some (.int .i32 f) ∧ W.cell? ⟨g, o + k * 3 + 1, none⟩ = some (.int .i32 t)) w2.drew) := ⟨⟨c1, c2⟩⟩
   have h14 : ¬ (k : Int) < 0 := by omega
   clear hx hi hh hzr q1 q2 q3 c1 c2 hon hk2
   go_wp2_with fail
   refine rn_begin (fun W : World => W.cell? ⟨g, o + k * 3, none⟩ = some (.int .i32 f) ∧ W.cell? ⟨g, o + k * 3 + 1, none⟩ = some (.int .i32 t)) (List.range 14) (by kernel_rfl) ?_
   refine rnA 0 16 (.slice (some ⟨g, o, none⟩) n c) (rnM rfl rfl) hS.out ?_
   refine rnA 1 17 (.int .i64 ((k : Nat) : Int)) (rnM rfl rfl) hS.out ?_
   simp only [Act.put, uA, uB, uC]
   refine rnA 2 18 (.pointer (some ⟨g, o + k * 3, none⟩)) (erI 47 100 _ _ rfl 3 k U47 g o _ _ (o + k * 3)) hS.out ?_
   refine rnA 3 19 (.pointer (some ⟨g, o + k * 3 + 1, none⟩)) (erF 100 1 _ rfl g (o + k * 3) 0 1 (o + k * 3 + 1) Tryz.underlying100 rfl) hS.out ?_
   simp only [Act.put, uA, uB, uC]
   refine rnA 4 20 (.int .i32 t) (fun W hW => ex_load W 21 _ _ rfl ⟨g, o + k * 3 + 1, none⟩ U21 rfl rfl (hW.2)) hS.out ?_
   refine rnA 5 21 (.int .i32 r) (rnM rfl rfl) hS.out ?_
   simp only [Act.put, uA, uB, uC]
   refine rnA 6 22 (.int .i32 (t + r)) (fun W hW => ex_addk W 21 21 _ _ rfl .i32 t r rfl rfl (t + r) hs1.out) hS.out ?_
   refine rnA 7 23 (.slice (some ⟨g, o, none⟩) n c) (rnM rfl rfl) hS.out ?_
   simp only [Act.put, uA, uB, uC]
   refine rnA 8 24 (.int .i64 ((k : Nat) : Int)) (rnM rfl rfl) hS.out ?_
   refine rnA 9 25 (.pointer (some ⟨g, o + k * 3, none⟩)) (erI 47 100 _ _ rfl 3 k U47 g o _ _ (o + k * 3)) hS.out ?_
   simp only [Act.put, uA, uB, uC]
   refine rnA 10 26 (.pointer (some ⟨g, o + k * 3, none⟩)) (erF 100 0 _ rfl g (o + k * 3) 0 0 (o + k * 3) Tryz.underlying100 rfl) hS.out ?_
   refine rnA 11 27 (.int .i32 f) (fun W hW => ex_load W 21 _ _ rfl ⟨g, o + k * 3, none⟩ U21 rfl rfl (hW.1)) hS.out ?_
   simp only [Act.put, uA, uB, uC]
   refine rnA 12 28 (.int .i32 z) (fun W hW => ex_subk W 21 21 _ _ rfl .i32 (t + r) f rfl rfl z hs2.out) hS.out ?_
   refine rnA 13 4 (.int .i32 z) (fun W hW => ex_assign W _ _ rfl rfl) hS.out ?_
   simp only [Act.put, uA, uB, uC]
   refine rn_done (by kernel_rfl) ?_ _
   clear hS
   go_wp2_with fail
   go_ret
   exact ⟨rfl, K2.out.drew⟩
 ·exact absurd hck.out h
end Go.Proofs.YtkcechpaeilaeaaGreatDoor
namespace Go.Proofs.YtkcechpaeilaeaaGreatDoor
open Go.RowKit
set_option maxRecDepth 20000
structure Fm (v : Nat) (fl : List Int) : Prop where
 one : v < 128 → fl = [(v : Int)]
 two : 128 ≤ v → v < 2048 → fl = [192 + (v : Int) / 64, 128 + (v : Int) % 64]
 long : 2048 ≤ v → fl.length ≠ 1 ∧ fl.length ≠ 2
 three : fl.length = 3 → 2048 ≤ v
 four : fl.length = 4 → 65536 ≤ v
def FmR (v : Nat) (w w' : World) (e : Ending) : Prop := ∃ x fl, e = .returned x ∧ Bs w' x fl ∧ Fm v fl ∧ KZ w w'
set_option maxHeartbeats 4000000 in
theorem form_at (v : Nat) (hv : v < 2097152) (w : World) : Calls Tryz.prog 159 #[.int .i32 (v : Int)] w fun e w' => FmR v w w' e := by
 have h1 : ¬ (v : Int) < 0 := by omega
 have hz : Hd (IntKind.i64.wrap (v : Int) = (v : Int)) := ⟨w64 (by omega)⟩
 by_cases c1 : v < 128
 ·have h2 : ¬ (1114111 : Int) < (v : Int) := by omega
  have h3 : ¬ (55296 : Int) ≤ (v : Int) := by omega
  have h4 : (v : Int) < 128 := by omega
  have hz5 : Hd (IntKind.u8.wrap (v : Int) = (v : Int)) := ⟨by rw [IntKind.wrap_u8]; omega⟩
  go_enter Tryz.func159, Tryz.ntmps159
  go_wp2_with (first | (with_reducible refine wl_run rfl (ex_convz _ 21 3 (.tmp 4) rfl (by kernel_rfl) .i64 U3 .i32 (v : Int) (v : Int) rfl hz.out) ?_) | (with_reducible refine wl_run rfl (ex_convz _ 3 5 (.tmp 22) rfl (by kernel_rfl) .u8 U5 .i64 (v : Int) (v : Int) rfl hz5.out) ?_))
  go_ret
  exact ⟨_, _, rfl, fresh_Bs w 5 [(v : Int)], ⟨fun _ => rfl, fun h => by omega, fun h => by omega, fun h => by simp at h, fun h => by simp at h⟩, (Kp.refl _ w).alloc _⟩
 ·by_cases c2 : v < 2048
  ·have h2 : ¬ (1114111 : Int) < (v : Int) := by omega
   have h3 : ¬ (55296 : Int) ≤ (v : Int) := by omega
   have h4 : ¬ (v : Int) < 128 := by omega
   have h5 : (v : Int) < 2048 := by omega
   go_enter Tryz.func159, Tryz.ntmps159
   go_wp2_with (with_reducible refine wl_run rfl (ex_convz _ 21 3 (.tmp 4) rfl (by kernel_rfl) .i64 U3 .i32 (v : Int) (v : Int) rfl hz.out) ?_)
   go_ret
   exact ⟨_, _, rfl, fresh_Bs w 5 [192 + (v : Int) / 64, 128 + (v : Int) % 64], ⟨fun h => by omega, fun _ _ => rfl, fun h => by omega, fun h => by simp at h, fun h => by simp at h⟩, (Kp.refl _ w).alloc _⟩
  ·by_cases c3 : 1114111 < v
   ·have h2 : (1114111 : Int) < (v : Int) := by omega
    go_enter Tryz.func159, Tryz.ntmps159
    go_wp2_with (with_reducible refine wl_run rfl (ex_convz _ 21 3 (.tmp 4) rfl (by kernel_rfl) .i64 U3 .i32 (v : Int) (v : Int) rfl hz.out) ?_)
    go_ret
    exact ⟨_, [], rfl, ⟨none, 0, rfl, Nat.le_refl _, .inl rfl⟩, ⟨fun h => by omega, fun h => by omega, fun h => by simp, fun h => by simp at h, fun h => by simp at h⟩, Kp.refl _ _⟩
   ·have h2 : ¬ (1114111 : Int) < (v : Int) := by omega
    have h4 : ¬ (v : Int) < 128 := by omega
    have h5 : ¬ (v : Int) < 2048 := by omega
    by_cases c4 : 55296 ≤ v ∧ v ≤ 57343
    ·have h3 : (55296 : Int) ≤ (v : Int) := by omega
     have h3' : (v : Int) ≤ 57343 := by omega
     go_enter Tryz.func159, Tryz.ntmps159
     go_wp2_with (with_reducible refine wl_run rfl (ex_convz _ 21 3 (.tmp 4) rfl (by kernel_rfl) .i64 U3 .i32 (v : Int) (v : Int) rfl hz.out) ?_)
     go_ret
     exact ⟨_, [], rfl, ⟨none, 0, rfl, Nat.le_refl _, .inl rfl⟩, ⟨fun h => by omega, fun h => by omega, fun h => by simp, fun h => by simp at h, fun h => by simp at h⟩, Kp.refl _ _⟩
    ·have h3 : ¬ ((55296 : Int) ≤ (v : Int) ∧ (v : Int) ≤ 57343) := by omega
     by_cases c5 : v < 65536
     ·have h6 : (v : Int) < 65536 := by omega
      by_cases c6 : (55296 : Int) ≤ (v : Int)
      ·have c7 : ¬ (v : Int) ≤ 57343 := by omega
       go_enter Tryz.func159, Tryz.ntmps159
       go_wp2_with (with_reducible refine wl_run rfl (ex_convz _ 21 3 (.tmp 4) rfl (by kernel_rfl) .i64 U3 .i32 (v : Int) (v : Int) rfl hz.out) ?_)
       go_ret
       exact ⟨_, _, rfl, fresh_Bs w 5 [_, _, _], ⟨fun h => by omega, fun h => by omega, fun h => by simp, fun h => by omega, fun h => by simp at h⟩, (Kp.refl _ w).alloc _⟩
      ·go_enter Tryz.func159, Tryz.ntmps159
       go_wp2_with (with_reducible refine wl_run rfl (ex_convz _ 21 3 (.tmp 4) rfl (by kernel_rfl) .i64 U3 .i32 (v : Int) (v : Int) rfl hz.out) ?_)
       go_ret
       exact ⟨_, _, rfl, fresh_Bs w 5 [_, _, _], ⟨fun h => by omega, fun h => by omega, fun h => by simp, fun h => by omega, fun h => by simp at h⟩, (Kp.refl _ w).alloc _⟩
     ·have h6 : ¬ (v : Int) < 65536 := by omega
      have c6 : (55296 : Int) ≤ (v : Int) := by omega
      have c7 : ¬ (v : Int) ≤ 57343 := by omega
      go_enter Tryz.func159, Tryz.ntmps159
      go_wp2_with (with_reducible refine wl_run rfl (ex_convz _ 21 3 (.tmp 4) rfl (by kernel_rfl) .i64 U3 .i32 (v : Int) (v : Int) rfl hz.out) ?_)
      go_ret
      exact ⟨_, _, rfl, fresh_Bs w 5 [_, _, _, _], ⟨fun h => by omega, fun h => by omega, fun h => by simp, fun h => by simp at h, fun h => by omega⟩, (Kp.refl _ w).alloc _⟩
end Go.Proofs.YtkcechpaeilaeaaGreatDoor
namespace Go.Proofs.YtkcechpaeilaeaaGreatDoor
open Go.RowKit
open Go.ChangeMaps (setBlock)
section
variable {P : Program}
def entr (x : Int × Value × Nat) : MapEntry := { key := .int .i32 x.1, val := x.2.1, born := x.2.2 }
def IMr (w : World) (m : Nat) (L : List (Int × Value)) : Prop :=
 ∃ (t : List (Int × Value × Nat)) (clk : Nat), w.heap[m]? = some (.map (t.map entr).toArray clk) ∧ t.map pr = L ∧ (L.map (·.1)).Nodup ∧ (t.map (·.2.2)).Nodup ∧ ∀ x ∈ t, x.2.2 < clk
theorem IMr.keep {w w' : World} {m : Nat} {L : List (Int × Value)} (h : IMr w m L) (hb : w'.heap[m]? = w.heap[m]?) : IMr w' m L := by
 obtain ⟨t, clk, h1, h2⟩ := h
 exact ⟨t, clk, hb.trans h1, h2⟩
theorem IMr.lt {w : World} {m : Nat} {L : List (Int × Value)} (h : IMr w m L) : m < w.heap.size := by
 obtain ⟨t, clk, h1, h2⟩ := h
 exact blk_lt h1
theorem IMr.made (w : World) : IMr (w.alloc (.map #[] 0)) w.heap.size [] := ⟨[], 0, by rw [_root_.Go.heap_alloc_new]; rfl, rfl, by simp, by simp, by simp⟩
theorem findNow_intr (q : IntKind) (k : Int) (t : List (Int × Value × Nat)) : ∀ i, Instr.findNow (.int q) (.int .i32 k) (t.map entr) i = some (mfind k t i) := by
 induction t with
 | nil => intro i; rfl
 | cons x r ih =>
  intro i
  simp only [List.map_cons, Instr.findNow, entr, Instr.sameNow, mfind]
  by_cases h : k = x.1
  ·simp [h]
  ·have : (k == x.1) = false := by simpa using h
   rw [if_neg h]; simp only [if_true, this]; exact ih (i + 1)
theorem run_findKeyr {kt : TypeId} (hk : P.underlying kt = some (.int .i32)) (k : Int) (t : List (Int × Value × Nat)) (w : World) :
  (Instr.findKey kt (.int .i32 k) (t.map entr)).run P w = .ok (mfind k t 0) w := by
 unfold Instr.findKey
 rw [Sem.run_bind, run_underlying hk]
 simp only [Result.andThen_ok, findNow_intr]
 rfl
theorem run_checkKeyr {kt : TypeId} (hk : P.underlying kt = some (.int .i32)) (b : Bool) (n : Nat) (k : Int) (w : World) : (Instr.checkKey b (n + 1) kt (.int .i32 k)).run P w = .ok () w := by
 unfold Instr.checkKey
 rw [Sem.run_bind, run_underlying hk]
 rfl
theorem IMr.run_lookup {w : World} {m : Nat} {L : List (Int × Value)} (h : IMr w m L) {t kt e : TypeId} (ht : P.underlying t = some (.map kt e)) (hk : P.underlying kt = some (.int .i32)) {z : Value}
  (hz : (P.info? e).map (·.zero) = some (some z)) (k : Int) (b : Bool) :
  (Instr.lookup t (.map (some m)) (.int .i32 k) b).run P w = .ok (if b then .tuple #[(mget L k).getD z, .bool (mget L k).isSome] else (mget L k).getD z) w := by
 obtain ⟨tt, clk, hb, hL, -⟩ := h
 have hzv : (zeroValue e).run P w = .ok z w := by
  cases hi : P.info? e with
  | none => rw [hi] at hz; simp at hz
  | some i => rw [hi] at hz; simp at hz; simp [zeroValue, typeInfo, hi, hz]
 unfold Instr.lookup
 rw [Sem.run_bind, run_underlying ht]
 simp only [Result.andThen_ok, Sem.run_bind, run_getMap hb, Sem.run_pure, run_checkKeyr hk]
 rw [run_findKeyr hk]
 simp only [Result.andThen_ok]
 have hg := mfind_get k tt 0
 rw [hL] at hg
 cases hf : mfind k tt 0 with
 | none =>
  rw [hf] at hg
  simp only [Option.map_none] at hg
  simp only [Sem.run_bind, hzv, Result.andThen_ok, Sem.run_pure, ← hg]
  rfl
 | some x =>
  rw [hf] at hg
  simp only [Option.map_some] at hg
  simp only [Result.andThen_ok, Sem.run_pure, ← hg]
  rfl
theorem list_modify_entr (t : List (Int × Value × Nat)) (i : Nat) (k : Int) (v : Value) : ((t.map entr).toArray.modify i fun e => { e with key := .int .i32 k, val := v }) = ((t.modify i fun x => (k, v, x.2.2)).map entr).toArray := by
 apply Array.ext'
 simp only [Array.toList_modify, List.toList_toArray]
 apply List.ext_getElem?
 intro j
 simp only [List.getElem?_modify, List.getElem?_map]
 by_cases h : i = j
 ·subst h
  cases t[i]? <;> simp [entr]
 ·simp [h]
theorem IMr.run_update {w : World} {m : Nat} {L : List (Int × Value)} (h : IMr w m L) {t kt e : TypeId} (ht : P.underlying t = some (.map kt e)) (hk : P.underlying kt = some (.int .i32)) (k : Int) (v : Value) :
  ∃ w', (Instr.mapUpdate t (.map (some m)) (.int .i32 k) v).run P w = .ok () w' ∧ IMr w' m (mput L k v) ∧ Kp (· = m) w w' := by
 obtain ⟨tt, clk, hb, hL, hn, hnb, hlt⟩ := h
 have hp := mfind_put k v tt clk 0
 have hset : ∀ o : Obj, (setObj m o).run P w = .ok () (setBlock w m o) := fun o => by simp [setObj, Sem.run, hb, setBlock]
 have hm := blk_lt hb
 have hgot : ∀ o : Obj, (setBlock w m o).heap[m]? = some o := fun o => by
  show (w.heap.setIfInBounds m o)[m]? = _
  rw [Array.getElem?_setIfInBounds_self_of_lt hm]
 have hkp : ∀ o : Obj, Kp (· = m) w (setBlock w m o) := fun o => (Kp.refl _ w).setObj m o (.inr rfl)
 unfold Instr.mapUpdate
 simp only [Sem.run_bind, run_underlying ht, Result.andThen_ok, run_getMap hb, run_checkKeyr hk]
 rw [run_findKeyr hk]
 simp only [Result.andThen_ok]
 cases hf : mfind k tt 0 with
 | none =>
  rw [hf] at hp
  simp only at hp
  simp only [hset]
  refine ⟨_, rfl, ⟨tt ++ [(k, v, clk)], clk + 1, ?_, ?_, ?_, ?_, ?_⟩, hkp _⟩
  ·rw [hgot]; congr 2; simp [entr]
  ·rw [hp.2, hL]
  ·exact mput_nodup L k v hn
  ·rw [List.map_append, List.nodup_append]
   refine ⟨hnb, by simp, ?_⟩
   intro a ha b hb'
   simp at hb'
   subst hb'
   obtain ⟨x, hx, rfl⟩ := List.mem_map.1 ha
   have := hlt x hx
   omega
  ·intro x hx
   rcases List.mem_append.1 hx with hx | hx
   ·have := hlt x hx; omega
   ·simp at hx; subst hx; simp
 | some y =>
  rw [hf] at hp
  simp only [Nat.sub_zero, Nat.zero_add] at hp
  obtain ⟨_, h2, h3, h4⟩ := hp
  have hg : tt[y.1]? = some tt[y.1] := List.getElem?_eq_getElem h2
  have hk1 : tt[y.1].1 = k := by rw [hg] at h3; simpa using h3
  have hstay : (Instr.keyThatStays ((((tt.map entr).toArray)[y.1]?.map (·.key)).getD (.int .i32 k)) (.int .i32 k)).run P w = .ok (.int .i32 k) w := by
   have : ((((tt.map entr).toArray)[y.1]?.map (·.key)).getD (.int .i32 k)) = .int .i32 k := by simp [hg, entr, hk1]
   rw [this]
   simp [Instr.keyThatStays, Instr.sameBits]
  simp only [Sem.run_bind, hstay, Result.andThen_ok, hset]
  have hborn : (tt.modify y.1 fun x => (k, v, x.2.2)).map (·.2.2) = tt.map (·.2.2) := by
   apply List.ext_getElem?
   intro j
   simp only [List.getElem?_map, List.getElem?_modify]
   by_cases h : y.1 = j
   ·subst h; simp [hg]
   ·simp [h]
  refine ⟨_, rfl, ⟨tt.modify y.1 fun x => (k, v, x.2.2), clk, ?_, ?_, ?_, ?_, ?_⟩, hkp _⟩
  ·rw [hgot, list_modify_entr]
  ·rw [h4, hL]
  ·exact mput_nodup L k v hn
  ·rw [hborn]; exact hnb
  ·intro x hx
   have : x.2.2 ∈ (tt.modify y.1 fun x => (k, v, x.2.2)).map (·.2.2) := List.mem_map.2 ⟨x, hx, rfl⟩
   rw [hborn] at this
   obtain ⟨z, hz, e⟩ := List.mem_map.1 this
   rw [← e]; exact hlt z hz
end
section
variable {P : Program} {ops : Array Oper} {rest : List Oper} {o : Oper} {a : Act} {Q : Exit → Act → World → Prop} {K : Act → World → Prop}
theorem ex_lookupr (w : World) (t kt e : TypeId) (m x : Operand) (ok : Bool) (ho : o.op = .lookup t m x ok) (ht : P.underlying t = some (.map kt e)) (hk : P.underlying kt = some (.int .i32)) {z : Value} (hz : (P.info? e).map (·.zero) = some (some z))
  (b : Nat) (k : Int) (hm : a.eval m = .map (some b)) (hx : a.eval x = .int .i32 k) {L : List (Int × Value)} (hI : IMr w b L) :
  (execOp a.eval o).run P w = .ok (.value (if ok then .tuple #[(mget L k).getD z, .bool (mget L k).isSome] else (mget L k).getD z)) w := by
 unfold execOp
 simp only [ho, hm, hx, Sem.run_bind, hI.run_lookup ht hk hz k ok]
 rfl
theorem wl_lookupr {w : World} (hg : o.guard = none) (t kt e : TypeId) (m x : Operand) (ok : Bool) (ho : o.op = .lookup t m x ok) (ht : P.underlying t = some (.map kt e)) (hk : P.underlying kt = some (.int .i32)) {z : Value} (hz : (P.info? e).map (·.zero) = some (some z))
  (b : Nat) (k : Int) (hm : a.eval m = .map (some b)) (hx : a.eval x = .int .i32 k) {L : List (Int × Value)} (hI : IMr w b L)
  (h : wpList P ops Q rest (a.put o.dst (if ok then .tuple #[(mget L k).getD z, .bool (mget L k).isSome] else (mget L k).getD z)) w) : wpList P ops Q (o :: rest) a w :=
 wl_run hg (ex_lookupr w t kt e m x ok ho ht hk hz b k hm hx hI) h
theorem ow_updater {w : World} (t kt e : TypeId) (m x y : Operand) (ho : o.op = .mapUpdate t m x y) (ht : P.underlying t = some (.map kt e)) (hk : P.underlying kt = some (.int .i32))
  (b : Nat) (k : Int) (v : Value) (hm : a.eval m = .map (some b)) (hx : a.eval x = .int .i32 k) (hy : a.eval y = v) {L : List (Int × Value)} (hI : IMr w b L)
  (h : ∀ w', IMr w' b (mput L k v) → Kp (· = b) w w' → K (a.put o.dst undef) w') : o.wp P a w K Q := by
 obtain ⟨w', hr, h1, h2⟩ := hI.run_update (P := P) ht hk k v
 refine ow_skip (w' := w') (by
  unfold execOp
  simp only [ho, hm, hx, hy, Sem.run_bind, hr]
  rfl) (h _ h1 h2)
theorem wl_updater {w : World} (hg : o.guard = none) (t kt e : TypeId) (m x y : Operand) (ho : o.op = .mapUpdate t m x y) (ht : P.underlying t = some (.map kt e)) (hk : P.underlying kt = some (.int .i32))
  (b : Nat) (k : Int) (v : Value) (hm : a.eval m = .map (some b)) (hx : a.eval x = .int .i32 k) (hy : a.eval y = v) {L : List (Int × Value)} (hI : IMr w b L)
  (h : ∀ w', IMr w' b (mput L k v) → Kp (· = b) w w' → wpList P ops Q rest (a.put o.dst undef) w') : wpList P ops Q (o :: rest) a w :=
 wpList_plain hg fun _ hK => ow_updater t kt e m x y ho ht hk b k v hm hx hy hI (fun w' a b => hK _ _ (h w' a b))
end
end Go.Proofs.YtkcechpaeilaeaaGreatDoor
namespace Go.Proofs.YtkcechpaeilaeaaGreatDoor
open Go.RowKit
set_option maxRecDepth 20000
theorem size_alloc' (w : World) (o : Obj) : (w.alloc o).heap.size = w.heap.size + 1 := by show (w.heap.push o).size = _; simp
structure Fd (fl : List Fo) (A : Option Addr) (n c : Nat) (w0 w : World) (p m : Nat) : Prop where
 cells : w.heap[p]? = some (.cells #[.slice A n c, .map (some m)] 165 (0, 0))
 map : ∃ L, IMr w m L ∧ ∀ k v, mget L k = some v → v = .int .i32 (fone fl k)
 old : KZ w0 w
 pm : w0.heap.size ≤ p ∧ w0.heap.size ≤ m ∧ p ≠ m
theorem Fd.keep {fl : List Fo} {A : Option Addr} {n c : Nat} {w0 w w' : World} {p m : Nat} (h : Fd fl A n c w0 w p m) {S : Nat → Prop} (hk : Kp S w w') (hp : ¬ S p) (hm : ¬ S m) (h0 : ∀ k, k < w0.heap.size → ¬ S k) : Fd fl A n c w0 w' p m := by
 obtain ⟨L, hL, hv⟩ := h.map
 exact ⟨hk.keeps h.cells hp, ⟨L, hL.keep (hk.block m hL.lt hm), hv⟩, h.old.andThen hk (fun i hi hs => h0 i hi hs), h.pm⟩
theorem z21 : (Tryz.prog.info? 21).map (·.zero) = some (some (.int .i32 0)) := by kernel_rfl
set_option maxHeartbeats 1000000 in
theorem newfolds_at (fl : List Fo) (A : Option Addr) (n c : Nat) (S : Value) (cap : Int) (w : World) : Calls Tryz.prog 112 #[.agg #[.slice A n c, S, .int .i64 cap]] w fun e w' => ∃ p m, e = .returned (.pointer (some ⟨p, 0, none⟩)) ∧ Fd fl A n c w w' p m := by
 go_enter Tryz.func112, Tryz.ntmps112
 go_wp2_with (with_reducible refine wl_run rfl (ex_makeMap _ 163 rfl) ?_)
 go_ret
 refine ⟨w.heap.size + 1 + 1, w.heap.size + 1, rfl, ?_⟩
 obtain ⟨w1, hw1⟩ : ∃ w1, w1 = w.alloc (.cells #[.slice A n c, S, .int .i64 cap] 50) := ⟨_, rfl⟩
 have h1 : w1.heap.size = w.heap.size + 1 := by rw [hw1, size_alloc']
 rw [← hw1, ← h1]
 have h2 : (w1.alloc (.map #[] 0)).heap.size = w1.heap.size + 1 := size_alloc' _ _
 have hn := _root_.Go.heap_alloc_new (w1.alloc (.map #[] 0)) (.cells #[.slice A n c, .map (some w1.heap.size)] 165)
 rw [h2] at hn
 refine ⟨hn, ⟨[], (IMr.made w1).keep (Below.heap_alloc _ _ _ (by rw [h2]; omega)), fun k v h => by cases h⟩, ?_, by omega⟩
 rw [hw1]
 exact (((Kp.refl _ w).alloc _).alloc _).alloc _
set_option maxHeartbeats 2000000 in
theorem frune_at {w w0 : World} {A : Option Addr} {c p m : Nat} (fl : List Fo) (r : Int) (hr : -2147483648 ≤ r ∧ r ≤ 2147483647) (hF : Fr w0 (.slice A fl.length c) fl) (hck : fchk fl) (hD : Fd fl A fl.length c w0 w p m) :
  Calls Tryz.prog 134 #[.pointer (some ⟨p, 0, none⟩), .int .i32 r] w fun e w' => e = .returned (.int .i32 (fone fl r)) ∧ Fd fl A fl.length c w0 w' p m ∧ Kp (· = m) w w' := by
 obtain ⟨L, hL, hv⟩ := hD.map
 have d0 : w.cell? ⟨p, 0, none⟩ = some (.slice A fl.length c) := by rw [Lib.cell_of_heap hD.cells]; rfl
 have d1 : w.cell? ⟨p, 1, none⟩ = some (.map (some m)) := by rw [Lib.cell_of_heap hD.cells]; rfl
 have hpm := Hd.mk hD.pm
 have hru := Hd.mk (rune_at fl r hr (hF.keep hD.old) hck)
 have hD := Hd.mk hD
 have hL := Hd.mk hL
 have hv := Hd.mk hv
 obtain ⟨z, hz⟩ : ∃ z, Hd (fone fl r = z) := ⟨_, ⟨rfl⟩⟩
 rw [hz.out] at hru ⊢
 obtain ⟨n, hn⟩ : ∃ n, fl.length = n := ⟨_, rfl⟩
 rw [hn] at hD hru d0 ⊢
 clear hF hck
 cases hg : mget L r with
 | some v =>
  have hve := hv.out r v hg
  rw [hz.out] at hve
  subst hve
  have hg := Hd.mk hg
  go_enter Tryz.func134, Tryz.ntmps134
  go_wp2_with (first | ((with_reducible refine wl_lookupr rfl 163 21 21 (.tmp 11) (.tmp 12) true rfl Tryz.underlying163 U21 z21 m r rfl rfl hL.out ?_); rw [hg.out]; dsimp only [Option.getD, Option.isSome, if_true]))
  go_ret
  exact ⟨rfl, hD.out, Kp.refl _ _⟩
 | none =>
  have hg := Hd.mk hg
  go_enter Tryz.func134, Tryz.ntmps134
  go_wp2_with (first | ((with_reducible refine wl_lookupr rfl 163 21 21 (.tmp 11) (.tmp 12) true rfl Tryz.underlying163 U21 z21 m r rfl rfl hL.out ?_); rw [hg.out]; dsimp only [Option.getD, Option.isSome, if_true]))
  refine hru.out.mono ?_
  rintro e w1 ⟨rfl, k1⟩
  have D1 := Hd.mk (hD.out.keep k1 id id (fun _ _ => id))
  have L1 := Hd.mk (hL.out.keep (k1.block m hL.out.lt id))
  have e0 : w1.cell? ⟨p, 1, none⟩ = some (.map (some m)) := by rw [Lib.cell_of_heap D1.out.cells]; rfl
  have k1 := Hd.mk k1
  clear d0 d1
  go_wp2_with (first | ((with_reducible refine wl_updater rfl 163 21 21 (.tmp 27) (.tmp 28) (.tmp 29) rfl Tryz.underlying163 U21 m r (.int .i32 z) rfl rfl rfl L1.out ?_); intro w2 L2 k2; have L2 := Hd.mk L2; have k2 := Hd.mk k2))
  go_ret
  refine ⟨rfl, ⟨k2.out.keeps D1.out.cells (fun e => hpm.out.2.2 e), ⟨mput L r (.int .i32 z), L2.out, fun k v hk => ?_⟩, D1.out.old.andThen k2.out (fun i hi e => by have := hpm.out.2.1; omega), hpm.out⟩, (k1.out.mono (S' := (· = m)) (fun _ _ h => h.elim)).andThen k2.out (fun i hi e => e)⟩
  rw [mget_mput] at hk
  by_cases e : k = r
  ·rw [if_pos e] at hk
   cases hk
   rw [e, hz.out]
  ·rw [if_neg e] at hk
   exact hv.out k v hk
end Go.Proofs.YtkcechpaeilaeaaGreatDoor
namespace Go.Proofs.YtkcechpaeilaeaaGreatDoor
open Go.RowKit
set_option maxRecDepth 20000
def dec2 : List UInt8 → Option (Nat × Nat)
 | [] => none
 | [c] => if c.toNat < 128 then some (c.toNat, 1) else none
 | c :: d :: _ => if c.toNat < 128 then some (c.toNat, 1) else if 194 ≤ c.toNat ∧ c.toNat < 224 ∧ 128 ≤ d.toNat ∧ d.toNat < 192 then some (c.toNat % 32 * 64 + d.toNat % 64, 2) else none
theorem dec2_one {l : List UInt8} {c : UInt8} (h : l[0]? = some c) (hc : c.toNat < 128) : dec2 l = some (c.toNat, 1) := by
 match l, h with
 | [x], h => injection h with h; subst h; simp [dec2, hc]
 | x :: y :: r, h => injection h with h; subst h; simp [dec2, hc]
theorem dec2_two {l : List UInt8} {c d : UInt8} (h : l[0]? = some c) (h2 : l[1]? = some d) (hc : ¬ c.toNat < 128) : dec2 l = if 194 ≤ c.toNat ∧ c.toNat < 224 ∧ 128 ≤ d.toNat ∧ d.toNat < 192 then some (c.toNat % 32 * 64 + d.toNat % 64, 2) else none := by
 match l, h, h2 with
 | x :: y :: r, h, h2 => injection h with h; subst h; injection h2 with h2; subst h2; simp only [dec2, hc, if_false]
theorem dec2_end {l : List UInt8} {c : UInt8} (h : l[0]? = some c) (hl : l.length = 1) (hc : ¬ c.toNat < 128) : dec2 l = none := by
 match l, h, hl with
 | [x], h, _ => injection h with h; subst h; simp [dec2, hc]
structure Eqs (s : Bool) (fl bl : List Int) (j : Nat) : Prop where
 mp : s = true → ∀ i, i < j → fl[i]? = bl[i]?
 mpr : (∀ i, i < j → fl[i]? = bl[i]?) → s = true
def FsR (b : List UInt8) (w w' : World) (e : Ending) : Prop := ∃ v n : Nat, e = .returned (.tuple #[.int .i32 (v : Int), .int .i64 (n : Int)]) ∧ 1 ≤ n ∧ n ≤ b.length ∧ v < 2097152 ∧ (dec2 b = some (v, n) ∨ (dec2 b = none ∧ 2048 ≤ v)) ∧ KZ w w'
set_option maxHeartbeats 8000000 in
theorem first_at {w : World} {A : Option Addr} {cp : Nat} (b : List UInt8) (hb : b ≠ []) (hl : b.length ≤ 1000000000) (hB : Bs w (.slice A b.length cp) (ints b)) : Calls Tryz.prog 158 #[.slice A b.length cp] w fun e w' => FsR b w w' e := by
 have HB := Hd.mk hB
 obtain ⟨len, hlen⟩ : ∃ n, b.length = n := ⟨_, rfl⟩
 obtain ⟨c0, hc0⟩ : ∃ c, b[0]? = some c := ⟨_, List.getElem?_eq_getElem (by cases b with | nil => exact absurd rfl hb | cons => simp)⟩
 have hlen1 : 1 ≤ len := by rw [← hlen]; exact (List.getElem?_eq_some_iff.1 hc0).1
 rw [hlen] at HB hl ⊢
 have hlen := Hd.mk hlen
 have hc0 := Hd.mk hc0
 clear hB hb
 have h0b := c0.toNat_lt
 go_enter Tryz.func158, Tryz.ntmps158
 go_wp2_with fail
 go_loopw [4] (fun v4 wr => ∃ n : Nat, v4 = .int .i64 n ∧ 1 ≤ n ∧ n ≤ 5 ∧ Hd (KZ w wr ∧ (2 ≤ n → ¬ c0.toNat < 128) ∧ (3 ≤ n → dec2 b = none))) (fun v4 _ => 5 - (intOf v4).toNat)
 case atStart => exact ⟨1, rfl, Nat.le_refl _, by omega, ⟨Kp.refl _ _, fun h => by omega, fun h => by omega⟩⟩
 case round =>
  obtain ⟨n, rfl, hn1, hn5, HK⟩ := hrel
  by_cases hgo : n ≤ 4 ∧ n ≤ len
  ·obtain ⟨hg4, hgl⟩ := hgo
   have hg4I : (n : Int) ≤ 4 := by omega
   have hglI : (n : Int) ≤ (len : Int) := by omega
   have hBr := HB.out.keep (w' := wr) (fun b hb _ => HK.out.1.block b hb id)
   obtain ⟨g, o, rfl, hr⟩ : ∃ g o, A = some ⟨g, o, none⟩ ∧ wr.rangeAt g o (u8s (ints b)) := by
    obtain ⟨A', c', e, _, h⟩ := hBr
    injection e with e1
    subst e1
    rcases h with h | h
    ·have := congrArg List.length h
     rw [ints_length] at this
     have := hlen.out
     simp only [List.length_nil] at *
     omega
    ·exact h
   have hcell : ∀ (k : Nat) (c : UInt8), b[k]? = some c → wr.cell? ⟨g, o + k, none⟩ = some (.int .u8 (c.toNat : Int)) := fun k c h => hr k _ (by
    rw [ints_get b k (List.getElem?_eq_some_iff.1 h).1]
    rw [(List.getElem?_eq_some_iff.1 h).2])
   have d0 : wr.cell? ⟨g, o, none⟩ = some (.int .u8 (c0.toNat : Int)) := hcell 0 c0 hc0.out
   have hz0 : Hd (IntKind.i64.wrap (c0.toNat : Int) = (c0.toNat : Int)) := ⟨w64 (by omega)⟩
   have hr := Hd.mk hr
   have hcell := Hd.mk hcell
   have hn4 : n = 1 ∨ n = 2 ∨ n = 3 ∨ n = 4 := by omega
   rcases hn4 with rfl | rfl | rfl | rfl
   ·have hglJ : (1 : Int) ≤ (len : Int) := by omega
    clear hg4I hglI
    obtain ⟨v, hv⟩ : ∃ v, Hd (c0.toNat = v) := ⟨_, ⟨rfl⟩⟩
    have hvb : v < 2097152 := by have := hv.out; omega
    go_wp2_with (first | (with_reducible refine wl_run rfl (ex_convz _ 5 3 (.tmp 21) rfl (by kernel_rfl) .i64 U3 .u8 (c0.toNat : Int) (c0.toNat : Int) rfl hz0.out) ?_))
    rw [hv.out]
    refine (form_at v hvb _).mono ?_
    rintro e w1 ⟨x, fl, rfl, hx, hf, k1⟩
    obtain ⟨X, cX, rfl, hcX, hxr⟩ := hx
    have K1 := Hd.mk (HK.out.1.th k1)
    have hr1 := Hd.mk (rangeAt_keep (w' := w1) hr.out (k1.block g (rangeAt_lt hr.out (fun e => by have := congrArg List.length e; simp only [u8s, ints, List.length_map, List.length_nil] at this; have := hlen.out; omega)) id))
    have hf := Hd.mk hf
    clear hcX k1
    have hnx : Hd (¬ (fl.length = 1 ∧ ∀ i, i < 1 → fl[i]? = (ints b)[i]?) → (2 ≤ 1 + 1 → ¬ c0.toNat < 128) ∧ (3 ≤ 1 + 1 → dec2 b = none)) := ⟨fun hne => by
     refine ⟨fun _ hc => hne ?_, fun h => by omega⟩
     have := hf.out.one (by rw [← hv.out]; exact hc)
     subst this
     refine ⟨rfl, fun i hi => ?_⟩
     obtain rfl : i = 0 := by omega
     show some ((v : Nat) : Int) = _
     simp only [ints, List.getElem?_map, hc0.out, Option.map_some, hv.out]⟩
    have hyes : Hd ((fl.length = 1 ∧ ∀ i, i < 1 → fl[i]? = (ints b)[i]?) → (dec2 b = some (v, 1) ∨ (dec2 b = none ∧ 2048 ≤ v))) := ⟨fun ⟨hl1, hs⟩ => by
     have hv128 : v < 128 := by
      by_cases h : v < 128
      ·exact h
      ·by_cases h2 : v < 2048
       ·have := hf.out.two (by omega) h2
        rw [this] at hl1
        simp at hl1
       ·exact absurd hl1 (hf.out.long (by omega)).1
     exact .inl (by rw [← hv.out] at hv128 ⊢; exact dec2_one hc0.out hv128)⟩
    clear hf
    by_cases hfl : fl.length = 1
    ·rw [hfl] at ⊢
     have hxr := Hd.mk hxr
     go_wp2_with fail
     go_loopw [7, 8] (fun v7 v8 w2 => ∃ (s : Bool) (j : Nat), v7 = .bool s ∧ v8 = .int .i64 j ∧ j ≤ 1 ∧ Hd (KZ w1 w2 ∧ Eqs s fl (ints b) j)) (fun _ v8 _ => 1 - (intOf v8).toNat)
     case atStart => exact ⟨true, 0, rfl, rfl, Nat.zero_le _, ⟨Kp.refl _ _, ⟨fun _ i hi => absurd hi (Nat.not_lt_zero _), fun _ => rfl⟩⟩⟩
     case round =>
      obtain ⟨s, j, rfl, rfl, hj, HJ⟩ := hrel
      by_cases hjn : j < 1
      ·have hjI : (j : Int) < 1 := by omega
       cases s
       ·have hS : Hd ((fun W : World => True) wr.drew) := ⟨trivial⟩
        go_wp2_with fail
        refine rn_begin (fun W : World => True) (List.range 13) (by kernel_rfl) ?_
        refine rnA 0 98 (.bool false) (rnM rfl rfl) hS.out ?_
        refine rnA 1 99 (.bool false) (rnM rfl rfl) hS.out ?_
        simp only [Act.put, uA, uB, uC]
        refine rnP 2 100 hS.out ?_
        refine rnP 3 101 hS.out ?_
        simp only [Act.put, uA, uB, uC]
        refine rnP 4 102 hS.out ?_
        refine rnP 5 103 hS.out ?_
        simp only [Act.put, uA, uB, uC]
        refine rnP 6 104 hS.out ?_
        refine rnP 7 105 hS.out ?_
        simp only [Act.put, uA, uB, uC]
        refine rnP 8 106 hS.out ?_
        refine rnP 9 107 hS.out ?_
        simp only [Act.put, uA, uB, uC]
        refine rnP 10 108 hS.out ?_
        refine rnA 11 109 (.bool false) (fun W hW => ex_pick W _ _ _ rfl false _ rfl rfl) hS.out ?_
        simp only [Act.put, uA, uB, uC]
        refine rnA 12 7 (.bool false) (fun W hW => ex_assign W _ _ rfl rfl) hS.out ?_
        simp only [Act.put, uA, uB, uC]
        refine rn_done (by kernel_rfl) ?_ _
        clear hS
        go_wp2_with fail
        exact ⟨⟨false, j + 1, rfl, by go_num, by omega, ⟨HJ.out.1.drew, ⟨fun h => (by cases h), fun h => HJ.out.2.mpr (fun i hi => h i (by omega))⟩⟩⟩, by simp [intOf]; omega⟩
       ·obtain ⟨y, hy⟩ : ∃ y, fl[j]? = some y := ⟨_, List.getElem?_eq_getElem (by omega)⟩
        obtain ⟨z, hz⟩ : ∃ z, (ints b)[j]? = some z := ⟨_, List.getElem?_eq_getElem (by rw [ints_length]; have := hlen.out; omega)⟩
        obtain ⟨bX, oX, rfl, rX⟩ := hxr.out.resolve_left (fun e => by rw [e] at hfl; simp at hfl)
        have y1 : wr.cell? ⟨bX, oX + j, none⟩ = some (.int .u8 y) := HJ.out.1.see (rX j _ (by rw [u8s_get, hy]; rfl)) id
        have z1 : wr.cell? ⟨g, o + j, none⟩ = some (.int .u8 z) := HJ.out.1.see (hr1.out j _ (by rw [u8s_get, hz]; rfl)) id
        have hy := Hd.mk hy
        have hz := Hd.mk hz
        have hS : Hd ((fun W : World => W.cell? ⟨bX, oX + j, none⟩ = some (.int .u8 y) ∧ W.cell? ⟨g, o + j, none⟩ = some (.int .u8 z)) wr.drew) := ⟨⟨y1, z1⟩⟩
        clear y1 z1 rX
        obtain ⟨q, hq⟩ : ∃ q, Hd (decide (y = z) = q) := ⟨_, ⟨rfl⟩⟩
        cases q
        ·go_wp2_with fail
         refine rn_begin (fun W : World => W.cell? ⟨bX, oX + j, none⟩ = some (.int .u8 y) ∧ W.cell? ⟨g, o + j, none⟩ = some (.int .u8 z)) (List.range 13) (by kernel_rfl) ?_
         refine rnA 0 98 (.bool true) (rnM rfl rfl) hS.out ?_
         refine rnA 1 99 (.bool true) (rnM rfl rfl) hS.out ?_
         simp only [Act.put, uA, uB, uC]
         refine rnA 2 100 (.slice (some ⟨bX, oX, none⟩) 1 cX) (rnM rfl rfl) hS.out ?_
         refine rnA 3 101 (.int .i64 ((j : Nat) : Int)) (rnM rfl rfl) hS.out ?_
         simp only [Act.put, uA, uB, uC]
         refine rnA 4 102 (.pointer (some ⟨bX, oX + j, none⟩)) (erI 22 5 _ _ rfl 1 j U22 bX oX _ _ (oX + j)) hS.out ?_
         refine rnA 5 103 (.int .u8 y) (fun W hW => ex_load W 5 _ _ rfl ⟨bX, oX + j, none⟩ U5 rfl rfl (hW.1)) hS.out ?_
         simp only [Act.put, uA, uB, uC]
         refine rnA 6 104 (.slice (some ⟨g, o, none⟩) len cp) (rnM rfl rfl) hS.out ?_
         refine rnA 7 105 (.int .i64 ((j : Nat) : Int)) (rnM rfl rfl) hS.out ?_
         simp only [Act.put, uA, uB, uC]
         refine rnA 8 106 (.pointer (some ⟨g, o + j, none⟩)) (erI 22 5 _ _ rfl 1 j U22 g o _ _ (o + j)) hS.out ?_
         refine rnA 9 107 (.int .u8 z) (fun W hW => ex_load W 5 _ _ rfl ⟨g, o + j, none⟩ U5 rfl rfl (hW.2)) hS.out ?_
         simp only [Act.put, uA, uB, uC]
         refine rnA 10 108 (.bool false) (fun W hW => ex_eql W 5 _ _ _ rfl .u8 y z rfl rfl false (hq.out)) hS.out ?_
         refine rnA 11 109 (.bool false) (fun W hW => ex_pick W _ _ _ rfl true _ rfl rfl) hS.out ?_
         simp only [Act.put, uA, uB, uC]
         refine rnA 12 7 (.bool false) (fun W hW => ex_assign W _ _ rfl rfl) hS.out ?_
         simp only [Act.put, uA, uB, uC]
         refine rn_done (by kernel_rfl) ?_ _
         clear hS
         go_wp2_with fail
         exact ⟨⟨false, j + 1, rfl, by go_num, by omega, ⟨HJ.out.1.drew, ⟨fun h => (by cases h), fun h => absurd (h j (by omega)) (by rw [hy.out, hz.out]; intro e; injection e with e; exact of_decide_eq_false hq.out e)⟩⟩⟩, by simp [intOf]; omega⟩
        ·go_wp2_with fail
         refine rn_begin (fun W : World => W.cell? ⟨bX, oX + j, none⟩ = some (.int .u8 y) ∧ W.cell? ⟨g, o + j, none⟩ = some (.int .u8 z)) (List.range 13) (by kernel_rfl) ?_
         refine rnA 0 98 (.bool true) (rnM rfl rfl) hS.out ?_
         refine rnA 1 99 (.bool true) (rnM rfl rfl) hS.out ?_
         simp only [Act.put, uA, uB, uC]
         refine rnA 2 100 (.slice (some ⟨bX, oX, none⟩) 1 cX) (rnM rfl rfl) hS.out ?_
         refine rnA 3 101 (.int .i64 ((j : Nat) : Int)) (rnM rfl rfl) hS.out ?_
         simp only [Act.put, uA, uB, uC]
         refine rnA 4 102 (.pointer (some ⟨bX, oX + j, none⟩)) (erI 22 5 _ _ rfl 1 j U22 bX oX _ _ (oX + j)) hS.out ?_
         refine rnA 5 103 (.int .u8 y) (fun W hW => ex_load W 5 _ _ rfl ⟨bX, oX + j, none⟩ U5 rfl rfl (hW.1)) hS.out ?_
         simp only [Act.put, uA, uB, uC]
         refine rnA 6 104 (.slice (some ⟨g, o, none⟩) len cp) (rnM rfl rfl) hS.out ?_
         refine rnA 7 105 (.int .i64 ((j : Nat) : Int)) (rnM rfl rfl) hS.out ?_
         simp only [Act.put, uA, uB, uC]
         refine rnA 8 106 (.pointer (some ⟨g, o + j, none⟩)) (erI 22 5 _ _ rfl 1 j U22 g o _ _ (o + j)) hS.out ?_
         refine rnA 9 107 (.int .u8 z) (fun W hW => ex_load W 5 _ _ rfl ⟨g, o + j, none⟩ U5 rfl rfl (hW.2)) hS.out ?_
         simp only [Act.put, uA, uB, uC]
         refine rnA 10 108 (.bool true) (fun W hW => ex_eql W 5 _ _ _ rfl .u8 y z rfl rfl true (hq.out)) hS.out ?_
         refine rnA 11 109 (.bool true) (fun W hW => ex_pick W _ _ _ rfl true _ rfl rfl) hS.out ?_
         simp only [Act.put, uA, uB, uC]
         refine rnA 12 7 (.bool true) (fun W hW => ex_assign W _ _ rfl rfl) hS.out ?_
         simp only [Act.put, uA, uB, uC]
         refine rn_done (by kernel_rfl) ?_ _
         clear hS
         go_wp2_with fail
         exact ⟨⟨true, j + 1, rfl, by go_num, by omega, ⟨HJ.out.1.drew, ⟨fun _ i hi => by
          by_cases e : i = j
          ·subst e; rw [hy.out, hz.out, of_decide_eq_true hq.out]
          ·exact HJ.out.2.mp rfl i (by omega), fun _ => rfl⟩⟩⟩, by simp [intOf]; omega⟩
      ·have hjI : ¬ (j : Int) < 1 := by omega
       obtain rfl : j = 1 := by omega
       have K2 := Hd.mk (K1.out.th HJ.out.1)
       cases s
       ·go_wp2_with fail
        exact ⟨⟨1 + 1, by go_num, by omega, by omega, ⟨K2.out, hnx.out (fun h => by have := HJ.out.2.mpr h.2; cases this)⟩⟩, by simp [intOf]⟩
       ·have hcv : Hd (IntKind.i32.wrap (v : Int) = (v : Int)) := ⟨w32 (by omega)⟩
        go_wp2_with (with_reducible refine wl_run rfl (ex_convz _ 3 21 (.tmp 111) rfl (by kernel_rfl) .i32 U21 .i64 (v : Int) (v : Int) rfl hcv.out) ?_)
        go_ret2
        exact ⟨v, 1, rfl, by omega, by have := hlen.out; omega, hvb, hyes.out ⟨hfl, HJ.out.2.mp rfl⟩, K2.out⟩
    ·obtain ⟨m, hm⟩ : ∃ m, fl.length = m := ⟨_, rfl⟩
     have hx2 := Hd.mk (hnx.out (fun h => hfl h.1))
     rw [hm] at hfl ⊢
     have hmI : ((m : Int) == 1) = false := by simp only [beq_eq_false_iff_ne, ne_eq]; omega
     have hmI2 : ¬ (m : Int) = 1 := by omega
     clear hxr
     go_wp2_with fail
     exact ⟨⟨1 + 1, by go_num, by omega, by omega, ⟨K1.out, hx2.out⟩⟩, by simp [intOf]⟩
   ·have hglJ : (2 : Int) ≤ (len : Int) := by omega
    clear hg4I hglI
    obtain ⟨c1, hc1⟩ : ∃ c, b[1]? = some c := ⟨_, List.getElem?_eq_getElem (by have := hlen.out; omega)⟩
    have d1 := hcell.out 1 c1 hc1
    have hc1 := Hd.mk hc1
    have h1b := c1.toNat_lt
    obtain ⟨v, hv⟩ : ∃ v, Hd (c0.toNat % 32 * 64 + c1.toNat % 64 = v) := ⟨_, ⟨rfl⟩⟩
    have hvb : v < 2097152 := by have := hv.out; omega
    have hS : Hd ((fun W : World => W.cell? ⟨g, o, none⟩ = some (.int .u8 (c0.toNat : Int)) ∧ W.cell? ⟨g, o + 1, none⟩ = some (.int .u8 (c1.toNat : Int))) wr.drew) := ⟨⟨d0, d1⟩⟩
    go_wp2_with (first | (with_reducible refine wl_run rfl (ex_convz _ 5 3 (.tmp 21) rfl (by kernel_rfl) .i64 U3 .u8 (c0.toNat : Int) (c0.toNat : Int) rfl hz0.out) ?_))
    refine rn_begin (fun W : World => W.cell? ⟨g, o, none⟩ = some (.int .u8 (c0.toNat : Int)) ∧ W.cell? ⟨g, o + 1, none⟩ = some (.int .u8 (c1.toNat : Int))) (List.range 13) (by kernel_rfl) ?_
    refine rnA 0 25 (.slice (some ⟨g, o, none⟩) len cp) (rnM rfl rfl) hS.out ?_
    refine rnA 1 26 (.pointer (some ⟨g, o, none⟩)) (erI 22 5 _ _ rfl 1 0 U22 g o _ _ o) hS.out ?_
    simp only [Act.put, uA, uB, uC]
    refine rnA 2 27 (.int .u8 ((c0.toNat : Nat) : Int)) (fun W hW => ex_load W 5 _ _ rfl ⟨g, o, none⟩ U5 rfl rfl (hW.1)) hS.out ?_
    refine rnA 3 28 (.int .i64 ((c0.toNat : Nat) : Int)) (fun W hW => ex_toi64 W 5 3 _ rfl (by kernel_rfl) U3 .u8 c0.toNat (by omega) rfl) hS.out ?_
    simp only [Act.put, uA, uB, uC]
    refine rnA 4 29 (.int .i64 ((c0.toNat % 32 : Nat) : Int)) (fun W hW => ex_remK W 3 _ _ _ rfl c0.toNat 32 (by decide) (by omega) rfl rfl) hS.out ?_
    refine rnA 5 30 (.int .i64 (((c0.toNat % 32) * 64 : Nat) : Int)) (fun W hW => er_mul W 3 _ _ _ rfl (c0.toNat % 32) 64 ((c0.toNat % 32) * 64) (by first | rfl | omega) rfl rfl (by omega)) hS.out ?_
    simp only [Act.put, uA, uB, uC]
    refine rnA 6 31 (.slice (some ⟨g, o, none⟩) len cp) (rnM rfl rfl) hS.out ?_
    refine rnA 7 32 (.pointer (some ⟨g, o + 1, none⟩)) (erI 22 5 _ _ rfl 1 1 U22 g o _ _ (o + 1)) hS.out ?_
    simp only [Act.put, uA, uB, uC]
    refine rnA 8 33 (.int .u8 ((c1.toNat : Nat) : Int)) (fun W hW => ex_load W 5 _ _ rfl ⟨g, o + 1, none⟩ U5 rfl rfl (hW.2)) hS.out ?_
    refine rnA 9 34 (.int .i64 ((c1.toNat : Nat) : Int)) (fun W hW => ex_toi64 W 5 3 _ rfl (by kernel_rfl) U3 .u8 c1.toNat (by omega) rfl) hS.out ?_
    simp only [Act.put, uA, uB, uC]
    refine rnA 10 35 (.int .i64 ((c1.toNat % 64 : Nat) : Int)) (fun W hW => ex_remK W 3 _ _ _ rfl c1.toNat 64 (by decide) (by omega) rfl rfl) hS.out ?_
    refine rnA 11 36 (.int .i64 ((v : Nat) : Int)) (fun W hW => er_add W 3 3 _ _ rfl (c0.toNat % 32 * 64) (c1.toNat % 64) v hv.out rfl rfl (by omega)) hS.out ?_
    simp only [Act.put, uA, uB, uC]
    refine rnA 12 5 (.int .i64 ((v : Nat) : Int)) (fun W hW => ex_assign W _ _ rfl rfl) hS.out ?_
    simp only [Act.put, uA, uB, uC]
    refine rn_done (by kernel_rfl) ?_ _
    clear hS
    go_wp2_with fail
    refine (form_at v hvb _).mono ?_
    rintro e w1 ⟨x, fl, rfl, hx, hf, k1⟩
    obtain ⟨X, cX, rfl, hcX, hxr⟩ := hx
    have K1 := Hd.mk (HK.out.1.drew.th k1)
    have hr1 := Hd.mk (rangeAt_keep (w' := w1) hr.out (show w1.heap[g]? = wr.drew.heap[g]? from k1.block g (rangeAt_lt hr.out (fun e => by have := congrArg List.length e; simp only [u8s, ints, List.length_map, List.length_nil] at this; have := hlen.out; omega)) id))
    have hf := Hd.mk hf
    clear hcX k1
    have hnx : Hd (¬ (fl.length = 2 ∧ ∀ i, i < 2 → fl[i]? = (ints b)[i]?) → (2 ≤ 2 + 1 → ¬ c0.toNat < 128) ∧ (3 ≤ 2 + 1 → dec2 b = none)) := ⟨fun hne => by
     have hge := HK.out.2.1 (by omega)
     refine ⟨fun _ => hge, fun _ => ?_⟩
     rw [dec2_two hc0.out hc1.out hge, if_neg]
     intro hb
     have hvv := hv.out
     have := hf.out.two (by omega) (by omega)
     subst this
     refine hne ⟨rfl, fun i hi => ?_⟩
     have hi2 : i = 0 ∨ i = 1 := by omega
     rcases hi2 with rfl | rfl
     ·show some (192 + (v : Int) / 64) = _
      simp only [ints, List.getElem?_map, hc0.out, Option.map_some, Option.some.injEq]
      omega
     ·show some (128 + (v : Int) % 64) = _
      simp only [ints, List.getElem?_map, hc1.out, Option.map_some, Option.some.injEq]
      omega⟩
    have hyes : Hd ((fl.length = 2 ∧ ∀ i, i < 2 → fl[i]? = (ints b)[i]?) → (dec2 b = some (v, 2) ∨ (dec2 b = none ∧ 2048 ≤ v))) := ⟨fun ⟨hl1, hs⟩ => by
     have h2 : v < 2048 := by have := hv.out; omega
     have h1 : 128 ≤ v := by
      by_cases h : v < 128
      ·have := hf.out.one h
       rw [this] at hl1
       simp at hl1
      ·omega
     have hfl := hf.out.two h1 h2
     subst hfl
     have e0 := hs 0 (by omega)
     have e1 := hs 1 (by omega)
     simp only [ints, List.getElem?_map, hc0.out, hc1.out, Option.map_some, List.getElem?_cons_zero, List.getElem?_cons_succ, Option.some.injEq] at e0 e1
     have hvv := hv.out
     exact .inl (by rw [dec2_two hc0.out hc1.out (HK.out.2.1 (by omega)), if_pos (by omega), hv.out])⟩
    clear hf
    by_cases hfl : fl.length = 2
    ·rw [hfl] at ⊢
     have hxr := Hd.mk hxr
     go_wp2_with fail
     go_loopw [7, 8] (fun v7 v8 w2 => ∃ (s : Bool) (j : Nat), v7 = .bool s ∧ v8 = .int .i64 j ∧ j ≤ 2 ∧ Hd (KZ w1 w2 ∧ Eqs s fl (ints b) j)) (fun _ v8 _ => 2 - (intOf v8).toNat)
     case atStart => exact ⟨true, 0, rfl, rfl, Nat.zero_le _, ⟨Kp.refl _ _, ⟨fun _ i hi => absurd hi (Nat.not_lt_zero _), fun _ => rfl⟩⟩⟩
     case round =>
      obtain ⟨s, j, rfl, rfl, hj, HJ⟩ := hrel
      by_cases hjn : j < 2
      ·have hjI : (j : Int) < 2 := by omega
       cases s
       ·have hS : Hd ((fun W : World => True) wr.drew) := ⟨trivial⟩
        go_wp2_with fail
        refine rn_begin (fun W : World => True) (List.range 13) (by kernel_rfl) ?_
        refine rnA 0 98 (.bool false) (rnM rfl rfl) hS.out ?_
        refine rnA 1 99 (.bool false) (rnM rfl rfl) hS.out ?_
        simp only [Act.put, uA, uB, uC]
        refine rnP 2 100 hS.out ?_
        refine rnP 3 101 hS.out ?_
        simp only [Act.put, uA, uB, uC]
        refine rnP 4 102 hS.out ?_
        refine rnP 5 103 hS.out ?_
        simp only [Act.put, uA, uB, uC]
        refine rnP 6 104 hS.out ?_
        refine rnP 7 105 hS.out ?_
        simp only [Act.put, uA, uB, uC]
        refine rnP 8 106 hS.out ?_
        refine rnP 9 107 hS.out ?_
        simp only [Act.put, uA, uB, uC]
        refine rnP 10 108 hS.out ?_
        refine rnA 11 109 (.bool false) (fun W hW => ex_pick W _ _ _ rfl false _ rfl rfl) hS.out ?_
        simp only [Act.put, uA, uB, uC]
        refine rnA 12 7 (.bool false) (fun W hW => ex_assign W _ _ rfl rfl) hS.out ?_
        simp only [Act.put, uA, uB, uC]
        refine rn_done (by kernel_rfl) ?_ _
        clear hS
        go_wp2_with fail
        exact ⟨⟨false, j + 1, rfl, by go_num, by omega, ⟨HJ.out.1.drew, ⟨fun h => (by cases h), fun h => HJ.out.2.mpr (fun i hi => h i (by omega))⟩⟩⟩, by simp [intOf]; omega⟩
       ·obtain ⟨y, hy⟩ : ∃ y, fl[j]? = some y := ⟨_, List.getElem?_eq_getElem (by omega)⟩
        obtain ⟨z, hz⟩ : ∃ z, (ints b)[j]? = some z := ⟨_, List.getElem?_eq_getElem (by rw [ints_length]; have := hlen.out; omega)⟩
        obtain ⟨bX, oX, rfl, rX⟩ := hxr.out.resolve_left (fun e => by rw [e] at hfl; simp at hfl)
        have y1 : wr.cell? ⟨bX, oX + j, none⟩ = some (.int .u8 y) := HJ.out.1.see (rX j _ (by rw [u8s_get, hy]; rfl)) id
        have z1 : wr.cell? ⟨g, o + j, none⟩ = some (.int .u8 z) := HJ.out.1.see (hr1.out j _ (by rw [u8s_get, hz]; rfl)) id
        have hy := Hd.mk hy
        have hz := Hd.mk hz
        have hS : Hd ((fun W : World => W.cell? ⟨bX, oX + j, none⟩ = some (.int .u8 y) ∧ W.cell? ⟨g, o + j, none⟩ = some (.int .u8 z)) wr.drew) := ⟨⟨y1, z1⟩⟩
        clear y1 z1 rX
        obtain ⟨q, hq⟩ : ∃ q, Hd (decide (y = z) = q) := ⟨_, ⟨rfl⟩⟩
        cases q
        ·go_wp2_with fail
         refine rn_begin (fun W : World => W.cell? ⟨bX, oX + j, none⟩ = some (.int .u8 y) ∧ W.cell? ⟨g, o + j, none⟩ = some (.int .u8 z)) (List.range 13) (by kernel_rfl) ?_
         refine rnA 0 98 (.bool true) (rnM rfl rfl) hS.out ?_
         refine rnA 1 99 (.bool true) (rnM rfl rfl) hS.out ?_
         simp only [Act.put, uA, uB, uC]
         refine rnA 2 100 (.slice (some ⟨bX, oX, none⟩) 2 cX) (rnM rfl rfl) hS.out ?_
         refine rnA 3 101 (.int .i64 ((j : Nat) : Int)) (rnM rfl rfl) hS.out ?_
         simp only [Act.put, uA, uB, uC]
         refine rnA 4 102 (.pointer (some ⟨bX, oX + j, none⟩)) (erI 22 5 _ _ rfl 1 j U22 bX oX _ _ (oX + j)) hS.out ?_
         refine rnA 5 103 (.int .u8 y) (fun W hW => ex_load W 5 _ _ rfl ⟨bX, oX + j, none⟩ U5 rfl rfl (hW.1)) hS.out ?_
         simp only [Act.put, uA, uB, uC]
         refine rnA 6 104 (.slice (some ⟨g, o, none⟩) len cp) (rnM rfl rfl) hS.out ?_
         refine rnA 7 105 (.int .i64 ((j : Nat) : Int)) (rnM rfl rfl) hS.out ?_
         simp only [Act.put, uA, uB, uC]
         refine rnA 8 106 (.pointer (some ⟨g, o + j, none⟩)) (erI 22 5 _ _ rfl 1 j U22 g o _ _ (o + j)) hS.out ?_
         refine rnA 9 107 (.int .u8 z) (fun W hW => ex_load W 5 _ _ rfl ⟨g, o + j, none⟩ U5 rfl rfl (hW.2)) hS.out ?_
         simp only [Act.put, uA, uB, uC]
         refine rnA 10 108 (.bool false) (fun W hW => ex_eql W 5 _ _ _ rfl .u8 y z rfl rfl false (hq.out)) hS.out ?_
         refine rnA 11 109 (.bool false) (fun W hW => ex_pick W _ _ _ rfl true _ rfl rfl) hS.out ?_
         simp only [Act.put, uA, uB, uC]
         refine rnA 12 7 (.bool false) (fun W hW => ex_assign W _ _ rfl rfl) hS.out ?_
         simp only [Act.put, uA, uB, uC]
         refine rn_done (by kernel_rfl) ?_ _
         clear hS
         go_wp2_with fail
         exact ⟨⟨false, j + 1, rfl, by go_num, by omega, ⟨HJ.out.1.drew, ⟨fun h => (by cases h), fun h => absurd (h j (by omega)) (by rw [hy.out, hz.out]; intro e; injection e with e; exact of_decide_eq_false hq.out e)⟩⟩⟩, by simp [intOf]; omega⟩
        ·go_wp2_with fail
         refine rn_begin (fun W : World => W.cell? ⟨bX, oX + j, none⟩ = some (.int .u8 y) ∧ W.cell? ⟨g, o + j, none⟩ = some (.int .u8 z)) (List.range 13) (by kernel_rfl) ?_
         refine rnA 0 98 (.bool true) (rnM rfl rfl) hS.out ?_
         refine rnA 1 99 (.bool true) (rnM rfl rfl) hS.out ?_
         simp only [Act.put, uA, uB, uC]
         refine rnA 2 100 (.slice (some ⟨bX, oX, none⟩) 2 cX) (rnM rfl rfl) hS.out ?_
         refine rnA 3 101 (.int .i64 ((j : Nat) : Int)) (rnM rfl rfl) hS.out ?_
         simp only [Act.put, uA, uB, uC]
         refine rnA 4 102 (.pointer (some ⟨bX, oX + j, none⟩)) (erI 22 5 _ _ rfl 1 j U22 bX oX _ _ (oX + j)) hS.out ?_
         refine rnA 5 103 (.int .u8 y) (fun W hW => ex_load W 5 _ _ rfl ⟨bX, oX + j, none⟩ U5 rfl rfl (hW.1)) hS.out ?_
         simp only [Act.put, uA, uB, uC]
         refine rnA 6 104 (.slice (some ⟨g, o, none⟩) len cp) (rnM rfl rfl) hS.out ?_
         refine rnA 7 105 (.int .i64 ((j : Nat) : Int)) (rnM rfl rfl) hS.out ?_
         simp only [Act.put, uA, uB, uC]
         refine rnA 8 106 (.pointer (some ⟨g, o + j, none⟩)) (erI 22 5 _ _ rfl 1 j U22 g o _ _ (o + j)) hS.out ?_
         refine rnA 9 107 (.int .u8 z) (fun W hW => ex_load W 5 _ _ rfl ⟨g, o + j, none⟩ U5 rfl rfl (hW.2)) hS.out ?_
         simp only [Act.put, uA, uB, uC]
         refine rnA 10 108 (.bool true) (fun W hW => ex_eql W 5 _ _ _ rfl .u8 y z rfl rfl true (hq.out)) hS.out ?_
         refine rnA 11 109 (.bool true) (fun W hW => ex_pick W _ _ _ rfl true _ rfl rfl) hS.out ?_
         simp only [Act.put, uA, uB, uC]
         refine rnA 12 7 (.bool true) (fun W hW => ex_assign W _ _ rfl rfl) hS.out ?_
         simp only [Act.put, uA, uB, uC]
         refine rn_done (by kernel_rfl) ?_ _
         clear hS
         go_wp2_with fail
         exact ⟨⟨true, j + 1, rfl, by go_num, by omega, ⟨HJ.out.1.drew, ⟨fun _ i hi => by
          by_cases e : i = j
          ·subst e; rw [hy.out, hz.out, of_decide_eq_true hq.out]
          ·exact HJ.out.2.mp rfl i (by omega), fun _ => rfl⟩⟩⟩, by simp [intOf]; omega⟩
      ·have hjI : ¬ (j : Int) < 2 := by omega
       obtain rfl : j = 2 := by omega
       have K2 := Hd.mk (K1.out.th HJ.out.1)
       cases s
       ·go_wp2_with fail
        exact ⟨⟨2 + 1, by go_num, by omega, by omega, ⟨K2.out, hnx.out (fun h => by have := HJ.out.2.mpr h.2; cases this)⟩⟩, by simp [intOf]⟩
       ·have hcv : Hd (IntKind.i32.wrap (v : Int) = (v : Int)) := ⟨w32 (by omega)⟩
        go_wp2_with (with_reducible refine wl_run rfl (ex_convz _ 3 21 (.tmp 111) rfl (by kernel_rfl) .i32 U21 .i64 (v : Int) (v : Int) rfl hcv.out) ?_)
        go_ret2
        exact ⟨v, 2, rfl, by omega, by have := hlen.out; omega, hvb, hyes.out ⟨hfl, HJ.out.2.mp rfl⟩, K2.out⟩
    ·obtain ⟨m, hm⟩ : ∃ m, fl.length = m := ⟨_, rfl⟩
     have hx2 := Hd.mk (hnx.out (fun h => hfl h.1))
     rw [hm] at hfl ⊢
     have hmI : ((m : Int) == 2) = false := by simp only [beq_eq_false_iff_ne, ne_eq]; omega
     have hmI2 : ¬ (m : Int) = 2 := by omega
     clear hxr
     go_wp2_with fail
     exact ⟨⟨2 + 1, by go_num, by omega, by omega, ⟨K1.out, hx2.out⟩⟩, by simp [intOf]⟩
   ·have hglJ : (3 : Int) ≤ (len : Int) := by omega
    clear hg4I hglI
    obtain ⟨c1, hc1⟩ : ∃ c, b[1]? = some c := ⟨_, List.getElem?_eq_getElem (by have := hlen.out; omega)⟩
    have d1 := hcell.out 1 c1 hc1
    have hc1 := Hd.mk hc1
    have h1b := c1.toNat_lt
    obtain ⟨c2, hc2⟩ : ∃ c, b[2]? = some c := ⟨_, List.getElem?_eq_getElem (by have := hlen.out; omega)⟩
    have d2 := hcell.out 2 c2 hc2
    have hc2 := Hd.mk hc2
    have h2b := c2.toNat_lt
    obtain ⟨v, hv⟩ : ∃ v, Hd (c0.toNat % 16 * 4096 + c1.toNat % 64 * 64 + c2.toNat % 64 = v) := ⟨_, ⟨rfl⟩⟩
    have hvb : v < 2097152 := by have := hv.out; omega
    have hS : Hd ((fun W : World => W.cell? ⟨g, o, none⟩ = some (.int .u8 (c0.toNat : Int)) ∧ W.cell? ⟨g, o + 1, none⟩ = some (.int .u8 (c1.toNat : Int)) ∧ W.cell? ⟨g, o + 2, none⟩ = some (.int .u8 (c2.toNat : Int))) wr.drew) := ⟨⟨d0, d1, d2⟩⟩
    go_wp2_with (first | (with_reducible refine wl_run rfl (ex_convz _ 5 3 (.tmp 21) rfl (by kernel_rfl) .i64 U3 .u8 (c0.toNat : Int) (c0.toNat : Int) rfl hz0.out) ?_))
    refine rn_begin (fun W : World => W.cell? ⟨g, o, none⟩ = some (.int .u8 (c0.toNat : Int)) ∧ W.cell? ⟨g, o + 1, none⟩ = some (.int .u8 (c1.toNat : Int)) ∧ W.cell? ⟨g, o + 2, none⟩ = some (.int .u8 (c2.toNat : Int))) (List.range 20) (by kernel_rfl) ?_
    refine rnA 0 39 (.slice (some ⟨g, o, none⟩) len cp) (rnM rfl rfl) hS.out ?_
    refine rnA 1 40 (.pointer (some ⟨g, o, none⟩)) (erI 22 5 _ _ rfl 1 0 U22 g o _ _ o) hS.out ?_
    simp only [Act.put, uA, uB, uC]
    refine rnA 2 41 (.int .u8 ((c0.toNat : Nat) : Int)) (fun W hW => ex_load W 5 _ _ rfl ⟨g, o, none⟩ U5 rfl rfl (hW.1)) hS.out ?_
    refine rnA 3 42 (.int .i64 ((c0.toNat : Nat) : Int)) (fun W hW => ex_toi64 W 5 3 _ rfl (by kernel_rfl) U3 .u8 c0.toNat (by omega) rfl) hS.out ?_
    simp only [Act.put, uA, uB, uC]
    refine rnA 4 43 (.int .i64 ((c0.toNat % 16 : Nat) : Int)) (fun W hW => ex_rem16 W 3 _ _ _ rfl c0.toNat (by omega) rfl rfl) hS.out ?_
    refine rnA 5 44 (.int .i64 (((c0.toNat % 16) * 4096 : Nat) : Int)) (fun W hW => er_mul W 3 _ _ _ rfl (c0.toNat % 16) 4096 ((c0.toNat % 16) * 4096) (by first | rfl | omega) rfl rfl (by omega)) hS.out ?_
    simp only [Act.put, uA, uB, uC]
    refine rnA 6 45 (.slice (some ⟨g, o, none⟩) len cp) (rnM rfl rfl) hS.out ?_
    refine rnA 7 46 (.pointer (some ⟨g, o + 1, none⟩)) (erI 22 5 _ _ rfl 1 1 U22 g o _ _ (o + 1)) hS.out ?_
    simp only [Act.put, uA, uB, uC]
    refine rnA 8 47 (.int .u8 ((c1.toNat : Nat) : Int)) (fun W hW => ex_load W 5 _ _ rfl ⟨g, o + 1, none⟩ U5 rfl rfl (hW.2.1)) hS.out ?_
    refine rnA 9 48 (.int .i64 ((c1.toNat : Nat) : Int)) (fun W hW => ex_toi64 W 5 3 _ rfl (by kernel_rfl) U3 .u8 c1.toNat (by omega) rfl) hS.out ?_
    simp only [Act.put, uA, uB, uC]
    refine rnA 10 49 (.int .i64 ((c1.toNat % 64 : Nat) : Int)) (fun W hW => ex_remK W 3 _ _ _ rfl c1.toNat 64 (by decide) (by omega) rfl rfl) hS.out ?_
    refine rnA 11 50 (.int .i64 (((c1.toNat % 64) * 64 : Nat) : Int)) (fun W hW => er_mul W 3 _ _ _ rfl (c1.toNat % 64) 64 ((c1.toNat % 64) * 64) (by first | rfl | omega) rfl rfl (by omega)) hS.out ?_
    simp only [Act.put, uA, uB, uC]
    refine rnA 12 51 (.int .i64 (((c0.toNat % 16) * 4096 + (c1.toNat % 64) * 64 : Nat) : Int)) (fun W hW => er_add W 3 _ _ _ rfl ((c0.toNat % 16) * 4096) ((c1.toNat % 64) * 64) ((c0.toNat % 16) * 4096 + (c1.toNat % 64) * 64) (by first | rfl | omega) rfl rfl (by omega)) hS.out ?_
    refine rnA 13 52 (.slice (some ⟨g, o, none⟩) len cp) (rnM rfl rfl) hS.out ?_
    simp only [Act.put, uA, uB, uC]
    refine rnA 14 53 (.pointer (some ⟨g, o + 2, none⟩)) (erI 22 5 _ _ rfl 1 2 U22 g o _ _ (o + 2)) hS.out ?_
    refine rnA 15 54 (.int .u8 ((c2.toNat : Nat) : Int)) (fun W hW => ex_load W 5 _ _ rfl ⟨g, o + 2, none⟩ U5 rfl rfl (hW.2.2)) hS.out ?_
    simp only [Act.put, uA, uB, uC]
    refine rnA 16 55 (.int .i64 ((c2.toNat : Nat) : Int)) (fun W hW => ex_toi64 W 5 3 _ rfl (by kernel_rfl) U3 .u8 c2.toNat (by omega) rfl) hS.out ?_
    refine rnA 17 56 (.int .i64 ((c2.toNat % 64 : Nat) : Int)) (fun W hW => ex_remK W 3 _ _ _ rfl c2.toNat 64 (by decide) (by omega) rfl rfl) hS.out ?_
    simp only [Act.put, uA, uB, uC]
    refine rnA 18 57 (.int .i64 ((v : Nat) : Int)) (fun W hW => er_add W 3 3 _ _ rfl (c0.toNat % 16 * 4096 + c1.toNat % 64 * 64) (c2.toNat % 64) v hv.out rfl rfl (by omega)) hS.out ?_
    refine rnA 19 5 (.int .i64 ((v : Nat) : Int)) (fun W hW => ex_assign W _ _ rfl rfl) hS.out ?_
    simp only [Act.put, uA, uB, uC]
    refine rn_done (by kernel_rfl) ?_ _
    clear hS
    go_wp2_with fail
    refine (form_at v hvb _).mono ?_
    rintro e w1 ⟨x, fl, rfl, hx, hf, k1⟩
    obtain ⟨X, cX, rfl, hcX, hxr⟩ := hx
    have K1 := Hd.mk (HK.out.1.drew.th k1)
    have hr1 := Hd.mk (rangeAt_keep (w' := w1) hr.out (show w1.heap[g]? = wr.drew.heap[g]? from k1.block g (rangeAt_lt hr.out (fun e => by have := congrArg List.length e; simp only [u8s, ints, List.length_map, List.length_nil] at this; have := hlen.out; omega)) id))
    have hf := Hd.mk hf
    clear hcX k1
    have hnx : Hd (¬ (fl.length = 3 ∧ ∀ i, i < 3 → fl[i]? = (ints b)[i]?) → (2 ≤ 3 + 1 → ¬ c0.toNat < 128) ∧ (3 ≤ 3 + 1 → dec2 b = none)) := ⟨fun hne => by
     exact ⟨fun _ => HK.out.2.1 (by omega), fun _ => HK.out.2.2 (by omega)⟩⟩
    have hyes : Hd ((fl.length = 3 ∧ ∀ i, i < 3 → fl[i]? = (ints b)[i]?) → (dec2 b = some (v, 3) ∨ (dec2 b = none ∧ 2048 ≤ v))) := ⟨fun ⟨hl1, hs⟩ => by
     exact .inr ⟨HK.out.2.2 (by omega), hf.out.three hl1⟩⟩
    clear hf
    by_cases hfl : fl.length = 3
    ·rw [hfl] at ⊢
     have hxr := Hd.mk hxr
     go_wp2_with fail
     go_loopw [7, 8] (fun v7 v8 w2 => ∃ (s : Bool) (j : Nat), v7 = .bool s ∧ v8 = .int .i64 j ∧ j ≤ 3 ∧ Hd (KZ w1 w2 ∧ Eqs s fl (ints b) j)) (fun _ v8 _ => 3 - (intOf v8).toNat)
     case atStart => exact ⟨true, 0, rfl, rfl, Nat.zero_le _, ⟨Kp.refl _ _, ⟨fun _ i hi => absurd hi (Nat.not_lt_zero _), fun _ => rfl⟩⟩⟩
     case round =>
      obtain ⟨s, j, rfl, rfl, hj, HJ⟩ := hrel
      by_cases hjn : j < 3
      ·have hjI : (j : Int) < 3 := by omega
       cases s
       ·have hS : Hd ((fun W : World => True) wr.drew) := ⟨trivial⟩
        go_wp2_with fail
        refine rn_begin (fun W : World => True) (List.range 13) (by kernel_rfl) ?_
        refine rnA 0 98 (.bool false) (rnM rfl rfl) hS.out ?_
        refine rnA 1 99 (.bool false) (rnM rfl rfl) hS.out ?_
        simp only [Act.put, uA, uB, uC]
        refine rnP 2 100 hS.out ?_
        refine rnP 3 101 hS.out ?_
        simp only [Act.put, uA, uB, uC]
        refine rnP 4 102 hS.out ?_
        refine rnP 5 103 hS.out ?_
        simp only [Act.put, uA, uB, uC]
        refine rnP 6 104 hS.out ?_
        refine rnP 7 105 hS.out ?_
        simp only [Act.put, uA, uB, uC]
        refine rnP 8 106 hS.out ?_
        refine rnP 9 107 hS.out ?_
        simp only [Act.put, uA, uB, uC]
        refine rnP 10 108 hS.out ?_
        refine rnA 11 109 (.bool false) (fun W hW => ex_pick W _ _ _ rfl false _ rfl rfl) hS.out ?_
        simp only [Act.put, uA, uB, uC]
        refine rnA 12 7 (.bool false) (fun W hW => ex_assign W _ _ rfl rfl) hS.out ?_
        simp only [Act.put, uA, uB, uC]
        refine rn_done (by kernel_rfl) ?_ _
        clear hS
        go_wp2_with fail
        exact ⟨⟨false, j + 1, rfl, by go_num, by omega, ⟨HJ.out.1.drew, ⟨fun h => (by cases h), fun h => HJ.out.2.mpr (fun i hi => h i (by omega))⟩⟩⟩, by simp [intOf]; omega⟩
       ·obtain ⟨y, hy⟩ : ∃ y, fl[j]? = some y := ⟨_, List.getElem?_eq_getElem (by omega)⟩
        obtain ⟨z, hz⟩ : ∃ z, (ints b)[j]? = some z := ⟨_, List.getElem?_eq_getElem (by rw [ints_length]; have := hlen.out; omega)⟩
        obtain ⟨bX, oX, rfl, rX⟩ := hxr.out.resolve_left (fun e => by rw [e] at hfl; simp at hfl)
        have y1 : wr.cell? ⟨bX, oX + j, none⟩ = some (.int .u8 y) := HJ.out.1.see (rX j _ (by rw [u8s_get, hy]; rfl)) id
        have z1 : wr.cell? ⟨g, o + j, none⟩ = some (.int .u8 z) := HJ.out.1.see (hr1.out j _ (by rw [u8s_get, hz]; rfl)) id
        have hy := Hd.mk hy
        have hz := Hd.mk hz
        have hS : Hd ((fun W : World => W.cell? ⟨bX, oX + j, none⟩ = some (.int .u8 y) ∧ W.cell? ⟨g, o + j, none⟩ = some (.int .u8 z)) wr.drew) := ⟨⟨y1, z1⟩⟩
        clear y1 z1 rX
        obtain ⟨q, hq⟩ : ∃ q, Hd (decide (y = z) = q) := ⟨_, ⟨rfl⟩⟩
        cases q
        ·go_wp2_with fail
         refine rn_begin (fun W : World => W.cell? ⟨bX, oX + j, none⟩ = some (.int .u8 y) ∧ W.cell? ⟨g, o + j, none⟩ = some (.int .u8 z)) (List.range 13) (by kernel_rfl) ?_
         refine rnA 0 98 (.bool true) (rnM rfl rfl) hS.out ?_
         refine rnA 1 99 (.bool true) (rnM rfl rfl) hS.out ?_
         simp only [Act.put, uA, uB, uC]
         refine rnA 2 100 (.slice (some ⟨bX, oX, none⟩) 3 cX) (rnM rfl rfl) hS.out ?_
         refine rnA 3 101 (.int .i64 ((j : Nat) : Int)) (rnM rfl rfl) hS.out ?_
         simp only [Act.put, uA, uB, uC]
         refine rnA 4 102 (.pointer (some ⟨bX, oX + j, none⟩)) (erI 22 5 _ _ rfl 1 j U22 bX oX _ _ (oX + j)) hS.out ?_
         refine rnA 5 103 (.int .u8 y) (fun W hW => ex_load W 5 _ _ rfl ⟨bX, oX + j, none⟩ U5 rfl rfl (hW.1)) hS.out ?_
         simp only [Act.put, uA, uB, uC]
         refine rnA 6 104 (.slice (some ⟨g, o, none⟩) len cp) (rnM rfl rfl) hS.out ?_
         refine rnA 7 105 (.int .i64 ((j : Nat) : Int)) (rnM rfl rfl) hS.out ?_
         simp only [Act.put, uA, uB, uC]
         refine rnA 8 106 (.pointer (some ⟨g, o + j, none⟩)) (erI 22 5 _ _ rfl 1 j U22 g o _ _ (o + j)) hS.out ?_
         refine rnA 9 107 (.int .u8 z) (fun W hW => ex_load W 5 _ _ rfl ⟨g, o + j, none⟩ U5 rfl rfl (hW.2)) hS.out ?_
         simp only [Act.put, uA, uB, uC]
         refine rnA 10 108 (.bool false) (fun W hW => ex_eql W 5 _ _ _ rfl .u8 y z rfl rfl false (hq.out)) hS.out ?_
         refine rnA 11 109 (.bool false) (fun W hW => ex_pick W _ _ _ rfl true _ rfl rfl) hS.out ?_
         simp only [Act.put, uA, uB, uC]
         refine rnA 12 7 (.bool false) (fun W hW => ex_assign W _ _ rfl rfl) hS.out ?_
         simp only [Act.put, uA, uB, uC]
         refine rn_done (by kernel_rfl) ?_ _
         clear hS
         go_wp2_with fail
         exact ⟨⟨false, j + 1, rfl, by go_num, by omega, ⟨HJ.out.1.drew, ⟨fun h => (by cases h), fun h => absurd (h j (by omega)) (by rw [hy.out, hz.out]; intro e; injection e with e; exact of_decide_eq_false hq.out e)⟩⟩⟩, by simp [intOf]; omega⟩
        ·go_wp2_with fail
         refine rn_begin (fun W : World => W.cell? ⟨bX, oX + j, none⟩ = some (.int .u8 y) ∧ W.cell? ⟨g, o + j, none⟩ = some (.int .u8 z)) (List.range 13) (by kernel_rfl) ?_
         refine rnA 0 98 (.bool true) (rnM rfl rfl) hS.out ?_
         refine rnA 1 99 (.bool true) (rnM rfl rfl) hS.out ?_
         simp only [Act.put, uA, uB, uC]
         refine rnA 2 100 (.slice (some ⟨bX, oX, none⟩) 3 cX) (rnM rfl rfl) hS.out ?_
         refine rnA 3 101 (.int .i64 ((j : Nat) : Int)) (rnM rfl rfl) hS.out ?_
         simp only [Act.put, uA, uB, uC]
         refine rnA 4 102 (.pointer (some ⟨bX, oX + j, none⟩)) (erI 22 5 _ _ rfl 1 j U22 bX oX _ _ (oX + j)) hS.out ?_
         refine rnA 5 103 (.int .u8 y) (fun W hW => ex_load W 5 _ _ rfl ⟨bX, oX + j, none⟩ U5 rfl rfl (hW.1)) hS.out ?_
         simp only [Act.put, uA, uB, uC]
         refine rnA 6 104 (.slice (some ⟨g, o, none⟩) len cp) (rnM rfl rfl) hS.out ?_
         refine rnA 7 105 (.int .i64 ((j : Nat) : Int)) (rnM rfl rfl) hS.out ?_
         simp only [Act.put, uA, uB, uC]
         refine rnA 8 106 (.pointer (some ⟨g, o + j, none⟩)) (erI 22 5 _ _ rfl 1 j U22 g o _ _ (o + j)) hS.out ?_
         refine rnA 9 107 (.int .u8 z) (fun W hW => ex_load W 5 _ _ rfl ⟨g, o + j, none⟩ U5 rfl rfl (hW.2)) hS.out ?_
         simp only [Act.put, uA, uB, uC]
         refine rnA 10 108 (.bool true) (fun W hW => ex_eql W 5 _ _ _ rfl .u8 y z rfl rfl true (hq.out)) hS.out ?_
         refine rnA 11 109 (.bool true) (fun W hW => ex_pick W _ _ _ rfl true _ rfl rfl) hS.out ?_
         simp only [Act.put, uA, uB, uC]
         refine rnA 12 7 (.bool true) (fun W hW => ex_assign W _ _ rfl rfl) hS.out ?_
         simp only [Act.put, uA, uB, uC]
         refine rn_done (by kernel_rfl) ?_ _
         clear hS
         go_wp2_with fail
         exact ⟨⟨true, j + 1, rfl, by go_num, by omega, ⟨HJ.out.1.drew, ⟨fun _ i hi => by
          by_cases e : i = j
          ·subst e; rw [hy.out, hz.out, of_decide_eq_true hq.out]
          ·exact HJ.out.2.mp rfl i (by omega), fun _ => rfl⟩⟩⟩, by simp [intOf]; omega⟩
      ·have hjI : ¬ (j : Int) < 3 := by omega
       obtain rfl : j = 3 := by omega
       have K2 := Hd.mk (K1.out.th HJ.out.1)
       cases s
       ·go_wp2_with fail
        exact ⟨⟨3 + 1, by go_num, by omega, by omega, ⟨K2.out, hnx.out (fun h => by have := HJ.out.2.mpr h.2; cases this)⟩⟩, by simp [intOf]⟩
       ·have hcv : Hd (IntKind.i32.wrap (v : Int) = (v : Int)) := ⟨w32 (by omega)⟩
        go_wp2_with (with_reducible refine wl_run rfl (ex_convz _ 3 21 (.tmp 111) rfl (by kernel_rfl) .i32 U21 .i64 (v : Int) (v : Int) rfl hcv.out) ?_)
        go_ret2
        exact ⟨v, 3, rfl, by omega, by have := hlen.out; omega, hvb, hyes.out ⟨hfl, HJ.out.2.mp rfl⟩, K2.out⟩
    ·obtain ⟨m, hm⟩ : ∃ m, fl.length = m := ⟨_, rfl⟩
     have hx2 := Hd.mk (hnx.out (fun h => hfl h.1))
     rw [hm] at hfl ⊢
     have hmI : ((m : Int) == 3) = false := by simp only [beq_eq_false_iff_ne, ne_eq]; omega
     have hmI2 : ¬ (m : Int) = 3 := by omega
     clear hxr
     go_wp2_with fail
     exact ⟨⟨3 + 1, by go_num, by omega, by omega, ⟨K1.out, hx2.out⟩⟩, by simp [intOf]⟩
   ·have hglJ : (4 : Int) ≤ (len : Int) := by omega
    clear hg4I hglI
    obtain ⟨c1, hc1⟩ : ∃ c, b[1]? = some c := ⟨_, List.getElem?_eq_getElem (by have := hlen.out; omega)⟩
    have d1 := hcell.out 1 c1 hc1
    have hc1 := Hd.mk hc1
    have h1b := c1.toNat_lt
    obtain ⟨c2, hc2⟩ : ∃ c, b[2]? = some c := ⟨_, List.getElem?_eq_getElem (by have := hlen.out; omega)⟩
    have d2 := hcell.out 2 c2 hc2
    have hc2 := Hd.mk hc2
    have h2b := c2.toNat_lt
    obtain ⟨c3, hc3⟩ : ∃ c, b[3]? = some c := ⟨_, List.getElem?_eq_getElem (by have := hlen.out; omega)⟩
    have d3 := hcell.out 3 c3 hc3
    have hc3 := Hd.mk hc3
    have h3b := c3.toNat_lt
    obtain ⟨v, hv⟩ : ∃ v, Hd (c0.toNat % 8 * 262144 + c1.toNat % 64 * 4096 + c2.toNat % 64 * 64 + c3.toNat % 64 = v) := ⟨_, ⟨rfl⟩⟩
    have hvb : v < 2097152 := by have := hv.out; omega
    have hS : Hd ((fun W : World => W.cell? ⟨g, o, none⟩ = some (.int .u8 (c0.toNat : Int)) ∧ W.cell? ⟨g, o + 1, none⟩ = some (.int .u8 (c1.toNat : Int)) ∧ W.cell? ⟨g, o + 2, none⟩ = some (.int .u8 (c2.toNat : Int)) ∧ W.cell? ⟨g, o + 3, none⟩ = some (.int .u8 (c3.toNat : Int))) wr.drew) := ⟨⟨d0, d1, d2, d3⟩⟩
    go_wp2_with (first | (with_reducible refine wl_run rfl (ex_convz _ 5 3 (.tmp 21) rfl (by kernel_rfl) .i64 U3 .u8 (c0.toNat : Int) (c0.toNat : Int) rfl hz0.out) ?_))
    refine rn_begin (fun W : World => W.cell? ⟨g, o, none⟩ = some (.int .u8 (c0.toNat : Int)) ∧ W.cell? ⟨g, o + 1, none⟩ = some (.int .u8 (c1.toNat : Int)) ∧ W.cell? ⟨g, o + 2, none⟩ = some (.int .u8 (c2.toNat : Int)) ∧ W.cell? ⟨g, o + 3, none⟩ = some (.int .u8 (c3.toNat : Int))) (List.range 27) (by kernel_rfl) ?_
    refine rnA 0 60 (.slice (some ⟨g, o, none⟩) len cp) (rnM rfl rfl) hS.out ?_
    refine rnA 1 61 (.pointer (some ⟨g, o, none⟩)) (erI 22 5 _ _ rfl 1 0 U22 g o _ _ o) hS.out ?_
    simp only [Act.put, uA, uB, uC]
    refine rnA 2 62 (.int .u8 ((c0.toNat : Nat) : Int)) (fun W hW => ex_load W 5 _ _ rfl ⟨g, o, none⟩ U5 rfl rfl (hW.1)) hS.out ?_
    refine rnA 3 63 (.int .i64 ((c0.toNat : Nat) : Int)) (fun W hW => ex_toi64 W 5 3 _ rfl (by kernel_rfl) U3 .u8 c0.toNat (by omega) rfl) hS.out ?_
    simp only [Act.put, uA, uB, uC]
    refine rnA 4 64 (.int .i64 ((c0.toNat % 8 : Nat) : Int)) (fun W hW => ex_remK W 3 _ _ _ rfl c0.toNat 8 (by decide) (by omega) rfl rfl) hS.out ?_
    refine rnA 5 65 (.int .i64 (((c0.toNat % 8) * 262144 : Nat) : Int)) (fun W hW => er_mul W 3 _ _ _ rfl (c0.toNat % 8) 262144 ((c0.toNat % 8) * 262144) (by first | rfl | omega) rfl rfl (by omega)) hS.out ?_
    simp only [Act.put, uA, uB, uC]
    refine rnA 6 66 (.slice (some ⟨g, o, none⟩) len cp) (rnM rfl rfl) hS.out ?_
    refine rnA 7 67 (.pointer (some ⟨g, o + 1, none⟩)) (erI 22 5 _ _ rfl 1 1 U22 g o _ _ (o + 1)) hS.out ?_
    simp only [Act.put, uA, uB, uC]
    refine rnA 8 68 (.int .u8 ((c1.toNat : Nat) : Int)) (fun W hW => ex_load W 5 _ _ rfl ⟨g, o + 1, none⟩ U5 rfl rfl (hW.2.1)) hS.out ?_
    refine rnA 9 69 (.int .i64 ((c1.toNat : Nat) : Int)) (fun W hW => ex_toi64 W 5 3 _ rfl (by kernel_rfl) U3 .u8 c1.toNat (by omega) rfl) hS.out ?_
    simp only [Act.put, uA, uB, uC]
    refine rnA 10 70 (.int .i64 ((c1.toNat % 64 : Nat) : Int)) (fun W hW => ex_remK W 3 _ _ _ rfl c1.toNat 64 (by decide) (by omega) rfl rfl) hS.out ?_
    refine rnA 11 71 (.int .i64 (((c1.toNat % 64) * 4096 : Nat) : Int)) (fun W hW => er_mul W 3 _ _ _ rfl (c1.toNat % 64) 4096 ((c1.toNat % 64) * 4096) (by first | rfl | omega) rfl rfl (by omega)) hS.out ?_
    simp only [Act.put, uA, uB, uC]
    refine rnA 12 72 (.int .i64 (((c0.toNat % 8) * 262144 + (c1.toNat % 64) * 4096 : Nat) : Int)) (fun W hW => er_add W 3 _ _ _ rfl ((c0.toNat % 8) * 262144) ((c1.toNat % 64) * 4096) ((c0.toNat % 8) * 262144 + (c1.toNat % 64) * 4096) (by first | rfl | omega) rfl rfl (by omega)) hS.out ?_
    refine rnA 13 73 (.slice (some ⟨g, o, none⟩) len cp) (rnM rfl rfl) hS.out ?_
    simp only [Act.put, uA, uB, uC]
    refine rnA 14 74 (.pointer (some ⟨g, o + 2, none⟩)) (erI 22 5 _ _ rfl 1 2 U22 g o _ _ (o + 2)) hS.out ?_
    refine rnA 15 75 (.int .u8 ((c2.toNat : Nat) : Int)) (fun W hW => ex_load W 5 _ _ rfl ⟨g, o + 2, none⟩ U5 rfl rfl (hW.2.2.1)) hS.out ?_
    simp only [Act.put, uA, uB, uC]
    refine rnA 16 76 (.int .i64 ((c2.toNat : Nat) : Int)) (fun W hW => ex_toi64 W 5 3 _ rfl (by kernel_rfl) U3 .u8 c2.toNat (by omega) rfl) hS.out ?_
    refine rnA 17 77 (.int .i64 ((c2.toNat % 64 : Nat) : Int)) (fun W hW => ex_remK W 3 _ _ _ rfl c2.toNat 64 (by decide) (by omega) rfl rfl) hS.out ?_
    simp only [Act.put, uA, uB, uC]
    refine rnA 18 78 (.int .i64 (((c2.toNat % 64) * 64 : Nat) : Int)) (fun W hW => er_mul W 3 _ _ _ rfl (c2.toNat % 64) 64 ((c2.toNat % 64) * 64) (by first | rfl | omega) rfl rfl (by omega)) hS.out ?_
    refine rnA 19 79 (.int .i64 (((c0.toNat % 8) * 262144 + (c1.toNat % 64) * 4096 + (c2.toNat % 64) * 64 : Nat) : Int)) (fun W hW => er_add W 3 _ _ _ rfl ((c0.toNat % 8) * 262144 + (c1.toNat % 64) * 4096) ((c2.toNat % 64) * 64) ((c0.toNat % 8) * 262144 + (c1.toNat % 64) * 4096 + (c2.toNat % 64) * 64) (by first | rfl | omega) rfl rfl (by omega)) hS.out ?_
    simp only [Act.put, uA, uB, uC]
    refine rnA 20 80 (.slice (some ⟨g, o, none⟩) len cp) (rnM rfl rfl) hS.out ?_
    refine rnA 21 81 (.pointer (some ⟨g, o + 3, none⟩)) (erI 22 5 _ _ rfl 1 3 U22 g o _ _ (o + 3)) hS.out ?_
    simp only [Act.put, uA, uB, uC]
    refine rnA 22 82 (.int .u8 ((c3.toNat : Nat) : Int)) (fun W hW => ex_load W 5 _ _ rfl ⟨g, o + 3, none⟩ U5 rfl rfl (hW.2.2.2)) hS.out ?_
    refine rnA 23 83 (.int .i64 ((c3.toNat : Nat) : Int)) (fun W hW => ex_toi64 W 5 3 _ rfl (by kernel_rfl) U3 .u8 c3.toNat (by omega) rfl) hS.out ?_
    simp only [Act.put, uA, uB, uC]
    refine rnA 24 84 (.int .i64 ((c3.toNat % 64 : Nat) : Int)) (fun W hW => ex_remK W 3 _ _ _ rfl c3.toNat 64 (by decide) (by omega) rfl rfl) hS.out ?_
    refine rnA 25 85 (.int .i64 ((v : Nat) : Int)) (fun W hW => er_add W 3 3 _ _ rfl (c0.toNat % 8 * 262144 + c1.toNat % 64 * 4096 + c2.toNat % 64 * 64) (c3.toNat % 64) v hv.out rfl rfl (by omega)) hS.out ?_
    simp only [Act.put, uA, uB, uC]
    refine rnA 26 5 (.int .i64 ((v : Nat) : Int)) (fun W hW => ex_assign W _ _ rfl rfl) hS.out ?_
    simp only [Act.put, uA, uB, uC]
    refine rn_done (by kernel_rfl) ?_ _
    clear hS
    go_wp2_with fail
    refine (form_at v hvb _).mono ?_
    rintro e w1 ⟨x, fl, rfl, hx, hf, k1⟩
    obtain ⟨X, cX, rfl, hcX, hxr⟩ := hx
    have K1 := Hd.mk (HK.out.1.drew.th k1)
    have hr1 := Hd.mk (rangeAt_keep (w' := w1) hr.out (show w1.heap[g]? = wr.drew.heap[g]? from k1.block g (rangeAt_lt hr.out (fun e => by have := congrArg List.length e; simp only [u8s, ints, List.length_map, List.length_nil] at this; have := hlen.out; omega)) id))
    have hf := Hd.mk hf
    clear hcX k1
    have hnx : Hd (¬ (fl.length = 4 ∧ ∀ i, i < 4 → fl[i]? = (ints b)[i]?) → (2 ≤ 4 + 1 → ¬ c0.toNat < 128) ∧ (3 ≤ 4 + 1 → dec2 b = none)) := ⟨fun hne => by
     exact ⟨fun _ => HK.out.2.1 (by omega), fun _ => HK.out.2.2 (by omega)⟩⟩
    have hyes : Hd ((fl.length = 4 ∧ ∀ i, i < 4 → fl[i]? = (ints b)[i]?) → (dec2 b = some (v, 4) ∨ (dec2 b = none ∧ 2048 ≤ v))) := ⟨fun ⟨hl1, hs⟩ => by
     exact .inr ⟨HK.out.2.2 (by omega), by have := hf.out.four hl1; omega⟩⟩
    clear hf
    by_cases hfl : fl.length = 4
    ·rw [hfl] at ⊢
     have hxr := Hd.mk hxr
     go_wp2_with fail
     go_loopw [7, 8] (fun v7 v8 w2 => ∃ (s : Bool) (j : Nat), v7 = .bool s ∧ v8 = .int .i64 j ∧ j ≤ 4 ∧ Hd (KZ w1 w2 ∧ Eqs s fl (ints b) j)) (fun _ v8 _ => 4 - (intOf v8).toNat)
     case atStart => exact ⟨true, 0, rfl, rfl, Nat.zero_le _, ⟨Kp.refl _ _, ⟨fun _ i hi => absurd hi (Nat.not_lt_zero _), fun _ => rfl⟩⟩⟩
     case round =>
      obtain ⟨s, j, rfl, rfl, hj, HJ⟩ := hrel
      by_cases hjn : j < 4
      ·have hjI : (j : Int) < 4 := by omega
       cases s
       ·have hS : Hd ((fun W : World => True) wr.drew) := ⟨trivial⟩
        go_wp2_with fail
        refine rn_begin (fun W : World => True) (List.range 13) (by kernel_rfl) ?_
        refine rnA 0 98 (.bool false) (rnM rfl rfl) hS.out ?_
        refine rnA 1 99 (.bool false) (rnM rfl rfl) hS.out ?_
        simp only [Act.put, uA, uB, uC]
        refine rnP 2 100 hS.out ?_
        refine rnP 3 101 hS.out ?_
        simp only [Act.put, uA, uB, uC]
        refine rnP 4 102 hS.out ?_
        refine rnP 5 103 hS.out ?_
        simp only [Act.put, uA, uB, uC]
        refine rnP 6 104 hS.out ?_
        refine rnP 7 105 hS.out ?_
        simp only [Act.put, uA, uB, uC]
        refine rnP 8 106 hS.out ?_
        refine rnP 9 107 hS.out ?_
        simp only [Act.put, uA, uB, uC]
        refine rnP 10 108 hS.out ?_
        refine rnA 11 109 (.bool false) (fun W hW => ex_pick W _ _ _ rfl false _ rfl rfl) hS.out ?_
        simp only [Act.put, uA, uB, uC]
        refine rnA 12 7 (.bool false) (fun W hW => ex_assign W _ _ rfl rfl) hS.out ?_
        simp only [Act.put, uA, uB, uC]
        refine rn_done (by kernel_rfl) ?_ _
        clear hS
        go_wp2_with fail
        exact ⟨⟨false, j + 1, rfl, by go_num, by omega, ⟨HJ.out.1.drew, ⟨fun h => (by cases h), fun h => HJ.out.2.mpr (fun i hi => h i (by omega))⟩⟩⟩, by simp [intOf]; omega⟩
       ·obtain ⟨y, hy⟩ : ∃ y, fl[j]? = some y := ⟨_, List.getElem?_eq_getElem (by omega)⟩
        obtain ⟨z, hz⟩ : ∃ z, (ints b)[j]? = some z := ⟨_, List.getElem?_eq_getElem (by rw [ints_length]; have := hlen.out; omega)⟩
        obtain ⟨bX, oX, rfl, rX⟩ := hxr.out.resolve_left (fun e => by rw [e] at hfl; simp at hfl)
        have y1 : wr.cell? ⟨bX, oX + j, none⟩ = some (.int .u8 y) := HJ.out.1.see (rX j _ (by rw [u8s_get, hy]; rfl)) id
        have z1 : wr.cell? ⟨g, o + j, none⟩ = some (.int .u8 z) := HJ.out.1.see (hr1.out j _ (by rw [u8s_get, hz]; rfl)) id
        have hy := Hd.mk hy
        have hz := Hd.mk hz
        have hS : Hd ((fun W : World => W.cell? ⟨bX, oX + j, none⟩ = some (.int .u8 y) ∧ W.cell? ⟨g, o + j, none⟩ = some (.int .u8 z)) wr.drew) := ⟨⟨y1, z1⟩⟩
        clear y1 z1 rX
        obtain ⟨q, hq⟩ : ∃ q, Hd (decide (y = z) = q) := ⟨_, ⟨rfl⟩⟩
        cases q
        ·go_wp2_with fail
         refine rn_begin (fun W : World => W.cell? ⟨bX, oX + j, none⟩ = some (.int .u8 y) ∧ W.cell? ⟨g, o + j, none⟩ = some (.int .u8 z)) (List.range 13) (by kernel_rfl) ?_
         refine rnA 0 98 (.bool true) (rnM rfl rfl) hS.out ?_
         refine rnA 1 99 (.bool true) (rnM rfl rfl) hS.out ?_
         simp only [Act.put, uA, uB, uC]
         refine rnA 2 100 (.slice (some ⟨bX, oX, none⟩) 4 cX) (rnM rfl rfl) hS.out ?_
         refine rnA 3 101 (.int .i64 ((j : Nat) : Int)) (rnM rfl rfl) hS.out ?_
         simp only [Act.put, uA, uB, uC]
         refine rnA 4 102 (.pointer (some ⟨bX, oX + j, none⟩)) (erI 22 5 _ _ rfl 1 j U22 bX oX _ _ (oX + j)) hS.out ?_
         refine rnA 5 103 (.int .u8 y) (fun W hW => ex_load W 5 _ _ rfl ⟨bX, oX + j, none⟩ U5 rfl rfl (hW.1)) hS.out ?_
         simp only [Act.put, uA, uB, uC]
         refine rnA 6 104 (.slice (some ⟨g, o, none⟩) len cp) (rnM rfl rfl) hS.out ?_
         refine rnA 7 105 (.int .i64 ((j : Nat) : Int)) (rnM rfl rfl) hS.out ?_
         simp only [Act.put, uA, uB, uC]
         refine rnA 8 106 (.pointer (some ⟨g, o + j, none⟩)) (erI 22 5 _ _ rfl 1 j U22 g o _ _ (o + j)) hS.out ?_
         refine rnA 9 107 (.int .u8 z) (fun W hW => ex_load W 5 _ _ rfl ⟨g, o + j, none⟩ U5 rfl rfl (hW.2)) hS.out ?_
         simp only [Act.put, uA, uB, uC]
         refine rnA 10 108 (.bool false) (fun W hW => ex_eql W 5 _ _ _ rfl .u8 y z rfl rfl false (hq.out)) hS.out ?_
         refine rnA 11 109 (.bool false) (fun W hW => ex_pick W _ _ _ rfl true _ rfl rfl) hS.out ?_
         simp only [Act.put, uA, uB, uC]
         refine rnA 12 7 (.bool false) (fun W hW => ex_assign W _ _ rfl rfl) hS.out ?_
         simp only [Act.put, uA, uB, uC]
         refine rn_done (by kernel_rfl) ?_ _
         clear hS
         go_wp2_with fail
         exact ⟨⟨false, j + 1, rfl, by go_num, by omega, ⟨HJ.out.1.drew, ⟨fun h => (by cases h), fun h => absurd (h j (by omega)) (by rw [hy.out, hz.out]; intro e; injection e with e; exact of_decide_eq_false hq.out e)⟩⟩⟩, by simp [intOf]; omega⟩
        ·go_wp2_with fail
         refine rn_begin (fun W : World => W.cell? ⟨bX, oX + j, none⟩ = some (.int .u8 y) ∧ W.cell? ⟨g, o + j, none⟩ = some (.int .u8 z)) (List.range 13) (by kernel_rfl) ?_
         refine rnA 0 98 (.bool true) (rnM rfl rfl) hS.out ?_
         refine rnA 1 99 (.bool true) (rnM rfl rfl) hS.out ?_
         simp only [Act.put, uA, uB, uC]
         refine rnA 2 100 (.slice (some ⟨bX, oX, none⟩) 4 cX) (rnM rfl rfl) hS.out ?_
         refine rnA 3 101 (.int .i64 ((j : Nat) : Int)) (rnM rfl rfl) hS.out ?_
         simp only [Act.put, uA, uB, uC]
         refine rnA 4 102 (.pointer (some ⟨bX, oX + j, none⟩)) (erI 22 5 _ _ rfl 1 j U22 bX oX _ _ (oX + j)) hS.out ?_
         refine rnA 5 103 (.int .u8 y) (fun W hW => ex_load W 5 _ _ rfl ⟨bX, oX + j, none⟩ U5 rfl rfl (hW.1)) hS.out ?_
         simp only [Act.put, uA, uB, uC]
         refine rnA 6 104 (.slice (some ⟨g, o, none⟩) len cp) (rnM rfl rfl) hS.out ?_
         refine rnA 7 105 (.int .i64 ((j : Nat) : Int)) (rnM rfl rfl) hS.out ?_
         simp only [Act.put, uA, uB, uC]
         refine rnA 8 106 (.pointer (some ⟨g, o + j, none⟩)) (erI 22 5 _ _ rfl 1 j U22 g o _ _ (o + j)) hS.out ?_
         refine rnA 9 107 (.int .u8 z) (fun W hW => ex_load W 5 _ _ rfl ⟨g, o + j, none⟩ U5 rfl rfl (hW.2)) hS.out ?_
         simp only [Act.put, uA, uB, uC]
         refine rnA 10 108 (.bool true) (fun W hW => ex_eql W 5 _ _ _ rfl .u8 y z rfl rfl true (hq.out)) hS.out ?_
         refine rnA 11 109 (.bool true) (fun W hW => ex_pick W _ _ _ rfl true _ rfl rfl) hS.out ?_
         simp only [Act.put, uA, uB, uC]
         refine rnA 12 7 (.bool true) (fun W hW => ex_assign W _ _ rfl rfl) hS.out ?_
         simp only [Act.put, uA, uB, uC]
         refine rn_done (by kernel_rfl) ?_ _
         clear hS
         go_wp2_with fail
         exact ⟨⟨true, j + 1, rfl, by go_num, by omega, ⟨HJ.out.1.drew, ⟨fun _ i hi => by
          by_cases e : i = j
          ·subst e; rw [hy.out, hz.out, of_decide_eq_true hq.out]
          ·exact HJ.out.2.mp rfl i (by omega), fun _ => rfl⟩⟩⟩, by simp [intOf]; omega⟩
      ·have hjI : ¬ (j : Int) < 4 := by omega
       obtain rfl : j = 4 := by omega
       have K2 := Hd.mk (K1.out.th HJ.out.1)
       cases s
       ·go_wp2_with fail
        exact ⟨⟨4 + 1, by go_num, by omega, by omega, ⟨K2.out, hnx.out (fun h => by have := HJ.out.2.mpr h.2; cases this)⟩⟩, by simp [intOf]⟩
       ·have hcv : Hd (IntKind.i32.wrap (v : Int) = (v : Int)) := ⟨w32 (by omega)⟩
        go_wp2_with (with_reducible refine wl_run rfl (ex_convz _ 3 21 (.tmp 111) rfl (by kernel_rfl) .i32 U21 .i64 (v : Int) (v : Int) rfl hcv.out) ?_)
        go_ret2
        exact ⟨v, 4, rfl, by omega, by have := hlen.out; omega, hvb, hyes.out ⟨hfl, HJ.out.2.mp rfl⟩, K2.out⟩
    ·obtain ⟨m, hm⟩ : ∃ m, fl.length = m := ⟨_, rfl⟩
     have hx2 := Hd.mk (hnx.out (fun h => hfl h.1))
     rw [hm] at hfl ⊢
     have hmI : ((m : Int) == 4) = false := by simp only [beq_eq_false_iff_ne, ne_eq]; omega
     have hmI2 : ¬ (m : Int) = 4 := by omega
     clear hxr
     go_wp2_with fail
     exact ⟨⟨4 + 1, by go_num, by omega, by omega, ⟨K1.out, hx2.out⟩⟩, by simp [intOf]⟩
  ·have hgI : Hd (dec2 b = none) := ⟨by
    by_cases h3 : 3 ≤ n
    ·exact HK.out.2.2 h3
    ·have hn2 : n = 2 := by omega
     exact dec2_end hc0.out (by have := hlen.out; omega) (HK.out.2.1 (by omega))⟩
   by_cases hg4 : n ≤ 4
   ·have hg4I : (n : Int) ≤ 4 := by omega
    have hglI : ¬ (n : Int) ≤ (len : Int) := by omega
    clear hgo
    go_wp2_with fail
    go_ret2
    exact ⟨65533, 1, rfl, by omega, by have := hlen.out; omega, by omega, .inr ⟨hgI.out, by omega⟩, HK.out.1⟩
   ·have hg4I : ¬ (n : Int) ≤ 4 := by omega
    clear hgo
    go_wp2_with fail
    go_ret2
    exact ⟨65533, 1, rfl, by omega, by have := hlen.out; omega, by omega, .inr ⟨hgI.out, by omega⟩, HK.out.1⟩
end Go.Proofs.YtkcechpaeilaeaaGreatDoor
namespace Go.Proofs.YtkcechpaeilaeaaGreatDoor
open Go.RowKit
set_option maxRecDepth 20000
def Stp (l : List UInt8) (v n : Nat) : Prop := 1 ≤ n ∧ n ≤ l.length ∧ v < 2097152 ∧ (dec2 l = some (v, n) ∨ (dec2 l = none ∧ 2048 ≤ v))
inductive Rs : List Nat → List UInt8 → Prop
 | nil : Rs [] []
 | step {v n : Nat} {rs : List Nat} {l : List UInt8} : Stp l v n → Rs rs (l.drop n) → Rs (v :: rs) l
theorem lett_lt {v : Nat} (h : lett (v : Int) = true) : v < 2048 := by
 have := lett_bd h
 omega
theorem Stp.letter {l : List UInt8} {v n : Nat} (h : Stp l v n) (hv : lett (v : Int) = true) : dec2 l = some (v, n) := by
 obtain ⟨_, _, _, h | ⟨_, h⟩⟩ := h
 ·exact h
 ·have := lett_lt hv
  omega
theorem Rs.same {a : List Nat} {l : List UInt8} (h : Rs a l) (ha : ∀ r ∈ a, lett ((r : Nat) : Int) = true) : ∀ {b : List Nat}, Rs b l → a = b := by
 induction h with
 | nil =>
  intro b hb
  cases hb with
  | nil => rfl
  | step hs _ => have := hs.1; have := hs.2.1; simp at this; omega
 | @step v n rs l hs hr ih =>
  intro b hb
  have h1 := hs.letter (ha v (by simp))
  cases hb with
  | nil => have := hs.1; have := hs.2.1; simp at this; omega
  | @step v' n' rs' _ hs' hr' =>
   obtain ⟨_, _, _, h2 | ⟨h2, _⟩⟩ := hs'
   ·rw [h1] at h2
    cases h2
    rw [ih (fun r hr => ha r (by simp [hr])) hr']
   ·rw [h1] at h2
    cases h2
theorem dec2_bd {l : List UInt8} {v n : Nat} (h : dec2 l = some (v, n)) : 1 ≤ n ∧ n ≤ l.length ∧ v < 2097152 := by
 match l, h with
 | [c], h =>
  simp only [dec2] at h
  split at h
  ·cases h; exact ⟨Nat.le_refl _, by simp, by omega⟩
  ·cases h
 | c :: d :: r, h =>
  simp only [dec2] at h
  split at h
  ·cases h; exact ⟨Nat.le_refl _, by simp, by omega⟩
  ·split at h
   ·cases h; exact ⟨by omega, by simp, by omega⟩
   ·cases h
theorem Stp.ex {l : List UInt8} (h : l ≠ []) : ∃ v n, Stp l v n := by
 cases hd : dec2 l with
 | none =>
  have : 1 ≤ l.length := by cases l with | nil => exact absurd rfl h | cons => simp
  exact ⟨2048, 1, Nat.le_refl _, this, by omega, .inr ⟨hd, Nat.le_refl _⟩⟩
 | some p =>
  obtain ⟨v, n⟩ := p
  obtain ⟨h1, h2, h3⟩ := dec2_bd hd
  exact ⟨v, n, h1, h2, h3, .inl hd⟩
theorem Rs.ex : ∀ (k : Nat) (l : List UInt8), l.length ≤ k → ∃ rs, Rs rs l
 | 0, l, h => by
  have : l = [] := List.eq_nil_of_length_eq_zero (by omega)
  subst this
  exact ⟨[], .nil⟩
 | k + 1, l, h => by
  by_cases h0 : l = []
  ·subst h0; exact ⟨[], .nil⟩
  ·obtain ⟨v, n, hs⟩ := Stp.ex h0
   obtain ⟨rs, hr⟩ := Rs.ex k (l.drop n) (by rw [List.length_drop]; have := hs.1; omega)
   exact ⟨v :: rs, .step hs hr⟩
def Pf (out : List Nat) (l rem : List UInt8) : Prop := ∀ rest, Rs rest rem → Rs (out ++ rest) l
theorem Pf.nil (l : List UInt8) : Pf [] l l := fun _ h => h
theorem Pf.next {out : List Nat} {l rem : List UInt8} {v n : Nat} (h : Pf out l rem) (hs : Stp rem v n) : Pf (out ++ [v]) l (rem.drop n) := fun rest hr => by
 rw [List.append_assoc]
 exact h _ (.step hs hr)
theorem Pf.end {out : List Nat} {l : List UInt8} (h : Pf out l []) : Rs out l := by
 have := h [] .nil
 rwa [List.append_nil] at this
def okW (fl : List Fo) (cap : Int) (l : List UInt8) : Prop := ∃ rs, Rs rs l ∧ (∀ r ∈ rs, lett ((r : Nat) : Int) = true ∧ fone fl ((r : Nat) : Int) = ((r : Nat) : Int)) ∧ 1 ≤ rs.length ∧ (rs.length : Int) ≤ cap
theorem okW_bad {fl : List Fo} {cap : Int} {l rem : List UInt8} {out : List Nat} {v n : Nat} (h : Pf out l rem) (hs : Stp rem v n) (hb : ¬ (lett (v : Int) = true ∧ fone fl (v : Int) = (v : Int))) : ¬ okW fl cap l := by
 rintro ⟨rs, h1, h2, _⟩
 obtain ⟨rest, hr⟩ := Rs.ex _ (rem.drop n) (Nat.le_refl _)
 have h3 := h _ (.step hs hr)
 have := h1.same (fun r hr => (h2 r hr).1) h3
 subst this
 exact hb (h2 v (by simp))
theorem okW_iff {fl : List Fo} {cap : Int} {l : List UInt8} {rs : List Nat} (h : Rs rs l) : okW fl cap l ↔ ((∀ r ∈ rs, lett ((r : Nat) : Int) = true ∧ fone fl ((r : Nat) : Int) = ((r : Nat) : Int)) ∧ 1 ≤ rs.length ∧ (rs.length : Int) ≤ cap) := by
 constructor
 ·rintro ⟨rs', h1, h2, h3⟩
  have := h1.same (fun r hr => (h2 r hr).1) h
  subst this
  exact ⟨h2, h3⟩
 ·rintro ⟨h2, h3⟩
  exact ⟨rs, h, h2, h3⟩
theorem Rs.bytes {a : List Nat} {l : List UInt8} (h : Rs a l) (ha : ∀ r ∈ a, lett ((r : Nat) : Int) = true) : l.length ≤ 2 * a.length := by
 induction h with
 | nil => simp
 | @step v n rs l hs hr ih =>
  have h1 := hs.letter (ha v (by simp))
  have h2 := ih (fun r hr => ha r (by simp [hr]))
  rw [List.length_drop] at h2
  have : n ≤ 2 := by
   match l, h1 with
   | [c], h =>
    simp only [dec2] at h
    split at h
    ·cases h; omega
    ·cases h
   | c :: d :: r, h =>
    simp only [dec2] at h
    split at h
    ·cases h; omega
    ·split at h
     ·cases h; omega
     ·cases h
  simp only [List.length_cons]
  omega
theorem get_at (l : List UInt8) (i : Nat) (c : UInt8) (h : l[i]? = some c) : (ByteArray.mk l.toArray).get! i = c := by
 show (l.toArray)[i]! = c
 simp [h]
set_option maxHeartbeats 1000000 in
theorem utf8_stp (l : List UInt8) (pos : Nat) (h : pos < l.length) : Stp (l.drop pos) (Utf8.decode ⟨l.toArray⟩ pos).1 (Utf8.decode ⟨l.toArray⟩ pos).2 := by
 rw [Lib.decode_at]
 have hsz : (ByteArray.mk l.toArray).size = l.length := by simp [ByteArray.size]
 obtain ⟨c, hc⟩ : ∃ c, l[pos]? = some c := ⟨_, List.getElem?_eq_getElem h⟩
 rw [hsz, get_at l pos c hc]
 have hdl : (l.drop pos).length = l.length - pos := List.length_drop
 have hd0 : (l.drop pos)[0]? = some c := by rw [List.getElem?_drop]; simpa using hc
 have hcl := c.toNat_lt
 generalize (ByteArray.get! ⟨l.toArray⟩ (pos + 2)) = e2
 generalize (ByteArray.get! ⟨l.toArray⟩ (pos + 3)) = e3
 by_cases h1 : c.toNat < 128
 ·have hd := dec2_one hd0 h1
  simp only [Lib.decodeN, h1, if_true]
  exact ⟨Nat.le_refl _, by omega, by omega, .inl hd⟩
 ·by_cases h2 : l.length - pos = 1
  ·have hd := dec2_end hd0 (by omega) h1
   have n1 : ¬ 1 < l.length - pos := by omega
   simp only [Lib.decodeN, h1, if_false, n1, false_and, and_false]
   exact ⟨Nat.le_refl _, by omega, by omega, .inr ⟨hd, by omega⟩⟩
  ·obtain ⟨d, hd'⟩ : ∃ d, l[pos + 1]? = some d := ⟨_, List.getElem?_eq_getElem (by omega)⟩
   rw [get_at l (pos + 1) d hd']
   have hd1 : (l.drop pos)[1]? = some d := by rw [List.getElem?_drop]; exact hd'
   have hd := dec2_two hd0 hd1 h1
   have hdl2 := d.toNat_lt
   have n1 : 1 < l.length - pos := by omega
   unfold Lib.decodeN Stp
   rw [hd, hdl]
   generalize c.toNat = x at *
   generalize d.toNat = y at *
   generalize e2.toNat = z2
   generalize e3.toNat = z3
   generalize l.length - pos = m at *
   clear hd hd0 hd1 hc hd' hdl hsz
   rw [if_neg h1]
   by_cases g1 : 194 ≤ x ∧ x < 224 ∧ 128 ≤ y ∧ y < 192
   ·rw [if_pos g1, if_pos (by omega), if_pos (by omega)]
    exact ⟨by omega, by show 2 ≤ m; omega, by show x % 32 * 64 + y % 64 < 2097152; omega, .inl rfl⟩
   ·rw [if_neg g1]
    split
    ·split
     ·exfalso; omega
     ·exact ⟨Nat.le_refl _, by show 1 ≤ m; omega, by show 65533 < 2097152; omega, .inr ⟨rfl, by show 2048 ≤ 65533; omega⟩⟩
    ·split
     ·split
      ·refine ⟨by omega, by show 3 ≤ m; omega, ?_, .inr ⟨rfl, ?_⟩⟩
       ·show x % 16 * 4096 + y % 64 * 64 + z2 % 64 < 2097152
        omega
       ·show 2048 ≤ x % 16 * 4096 + y % 64 * 64 + z2 % 64
        omega
      ·exact ⟨Nat.le_refl _, by show 1 ≤ m; omega, by show 65533 < 2097152; omega, .inr ⟨rfl, by show 2048 ≤ 65533; omega⟩⟩
     ·split
      ·split
       ·refine ⟨by omega, by show 4 ≤ m; omega, ?_, .inr ⟨rfl, ?_⟩⟩
        ·show x % 8 * 262144 + y % 64 * 4096 + z2 % 64 * 64 + z3 % 64 < 2097152
         omega
        ·show 2048 ≤ x % 8 * 262144 + y % 64 * 4096 + z2 % 64 * 64 + z3 % 64
         omega
       ·exact ⟨Nat.le_refl _, by show 1 ≤ m; omega, by show 65533 < 2097152; omega, .inr ⟨rfl, by show 2048 ≤ 65533; omega⟩⟩
      ·exact ⟨Nat.le_refl _, by show 1 ≤ m; omega, by show 65533 < 2097152; omega, .inr ⟨rfl, by show 2048 ≤ 65533; omega⟩⟩
end Go.Proofs.YtkcechpaeilaeaaGreatDoor
namespace Go.Proofs.YtkcechpaeilaeaaGreatDoor
open Go.RowKit
set_option maxRecDepth 20000
section
variable {P : Program} {o : Oper} {a : Act}
theorem ex_next (w : World) (x : Operand) (ho : o.op = .next x true) (k : Nat) (s : ByteArray) (pos v d : Nat) (hx : a.eval x = .pointer (some ⟨k, 0, none⟩)) (hk : w.heap[k]? = some (.stringIter s pos)) (h : pos < s.size) (hv : Utf8.decode s pos = (v, d)) :
  (execOp a.eval o).run P w = .ok (.value (.tuple #[.bool true, .int .i64 (pos : Int), .int .i32 (v : Int)])) (w.iterAt k s (pos + d)) := by
 have e := Lib.run_next_any_at (P := P) w k s pos o.type hk h
 rw [hv] at e
 unfold execOp
 simp only [ho, hx, Sem.run_bind, e, Result.andThen_ok, Sem.run_pure]
theorem ex_nextEnd (w : World) (x : Operand) (ho : o.op = .next x true) (k : Nat) (s : ByteArray) (pos : Nat) (hx : a.eval x = .pointer (some ⟨k, 0, none⟩)) (hk : w.heap[k]? = some (.stringIter s pos)) (h : ¬ pos < s.size) :
  (execOp a.eval o).run P w = .ok (.value (.tuple #[.bool false])) w := by
 have e := Lib.run_next_end_at (P := P) w k s pos o.type hk h
 unfold execOp
 simp only [ho, hx, Sem.run_bind, e, Result.andThen_ok, Sem.run_pure]
end
theorem kp_iterAt {w w0 : World} {S : Nat → Prop} (h : Kp S w0 w) (k : Nat) (s : ByteArray) (pos : Nat) (hk : w0.heap.size ≤ k ∨ S k) : Kp S w0 (w.iterAt k s pos) := h.setObj k (.stringIter s pos) hk
structure Ow (fl : List Fo) (A : Option Addr) (c p m : Nat) (cap : Int) (l : List UInt8) (w0 w wr : World) (out : List Nat) (pos : Nat) : Prop where
 it : wr.heap[w.heap.size + 1]? = some (.stringIter ⟨l.toArray⟩ pos)
 pf : Pf out l (l.drop pos)
 fd : Fd fl A fl.length c w0 wr p m
 kp : Kp (· = m) w wr
 good : ∀ r ∈ out, lett ((r : Nat) : Int) = true ∧ fone fl ((r : Nat) : Int) = ((r : Nat) : Int)
 cap : wr.cell? ⟨w.heap.size, 2, none⟩ = some (.int .i64 cap)
def OwR (fl : List Fo) (A : Option Addr) (c p m : Nat) (cap : Int) (l : List UInt8) (w0 w w' : World) (e : Ending) : Prop :=
 (∃ b, e = .returned (.bool b) ∧ (b = true ↔ okW fl cap l)) ∧ Fd fl A fl.length c w0 w' p m ∧ Kp (· = m) w w'
set_option maxHeartbeats 4000000 in
theorem own_at {w w0 : World} {A : Option Addr} {c p m : Nat} (fl : List Fo) (SS : Value) (cap : Int) (l : List UInt8) (hl : l.length ≤ 2000000) (hF : Fr w0 (.slice A fl.length c) fl) (hck : fchk fl) (hD : Fd fl A fl.length c w0 w p m) (hw : w0.heap.size ≤ w.heap.size) :
  Calls Tryz.prog 113 #[.agg #[.slice A fl.length c, SS, .int .i64 cap], .pointer (some ⟨p, 0, none⟩), .string ⟨l.toArray⟩] w fun e w' => OwR fl A c p m cap l w0 w w' e := by
 have HF := Hd.mk hF
 have Hck := Hd.mk hck
 have hmw : m < w.heap.size ∧ p < w.heap.size := by
  obtain ⟨L, hL, _⟩ := hD.map
  exact ⟨hL.lt, (Array.getElem?_eq_some_iff.1 hD.cells).1⟩
 have hsz : Hd ((⟨l.toArray⟩ : ByteArray).size = l.length) := ⟨by simp [ByteArray.size]⟩
 obtain ⟨s, hs⟩ : ∃ s : ByteArray, s = ⟨l.toArray⟩ := ⟨_, rfl⟩
 have hI0 : Hd (Ow fl A c p m cap l w0 w ((w.alloc (.cells #[.slice A fl.length c, SS, .int .i64 cap] 50)).alloc (.stringIter ⟨l.toArray⟩ 0)) [] 0) := ⟨by
  have h1 : (w.alloc (.cells #[.slice A fl.length c, SS, .int .i64 cap] 50)).heap.size = w.heap.size + 1 := size_alloc' _ _
  have hk := ((Kp.refl (· = m) w).alloc (.cells #[.slice A fl.length c, SS, .int .i64 cap] 50)).alloc (.stringIter ⟨l.toArray⟩ 0)
  have hk0 := ((Kp.refl (fun _ => False) w).alloc (.cells #[.slice A fl.length c, SS, .int .i64 cap] 50)).alloc (.stringIter ⟨l.toArray⟩ 0)
  refine ⟨?_, Pf.nil _, hD.keep hk0 id id (fun _ _ => id), hk, fun r hr => (by cases hr), ?_⟩
  ·have := _root_.Go.heap_alloc_new (w.alloc (.cells #[.slice A fl.length c, SS, .int .i64 cap] 50)) (.stringIter ⟨l.toArray⟩ 0)
   rwa [h1] at this
  ·have := _root_.Go.heap_alloc_new w (.cells #[.slice A fl.length c, SS, .int .i64 cap] 50)
   rw [Lib.cell_of_heap ((Below.heap_alloc _ _ _ (by rw [h1]; omega)).trans this)]
   rfl⟩
 clear hF hck hD
 obtain ⟨nf, hnf⟩ : ∃ n, fl.length = n := ⟨_, rfl⟩
 rw [hnf] at HF hI0 ⊢
 have hnf := Hd.mk hnf
 go_enter Tryz.func113, Tryz.ntmps113
 go_wp2_with fail
 go_loopw [7] (fun v7 wr => ∃ (out : List Nat) (pos : Nat), v7 = .int .i64 (out.length : Int) ∧ out.length ≤ pos ∧ wr.iterPos (w.heap.size + 1) = pos ∧ pos ≤ l.length ∧ Hd (Ow fl A c p m cap l w0 w wr out pos)) (fun _ wr => l.length - wr.iterPos (w.heap.size + 1))
 case atStart => exact ⟨[], 0, rfl, Nat.le_refl _, by simp only [World.iterPos, World.iter, hI0.out.it], Nat.zero_le _, hI0⟩
 case round =>
  clear hI0
  obtain ⟨out, pos, rfl, hop, hip, hpl, hO⟩ := hrel
  by_cases hlt : pos < l.length
  ·have hlt2 : Hd (pos < (⟨l.toArray⟩ : ByteArray).size) := ⟨by rw [hsz.out]; exact hlt⟩
   obtain ⟨v, d, hvd⟩ : ∃ v d, Hd (Utf8.decode ⟨l.toArray⟩ pos = (v, d)) := ⟨_, _, ⟨rfl⟩⟩
   have hst := utf8_stp l pos hlt
   rw [hvd.out] at hst
   have hst := Hd.mk hst
   have hvb : v < 2097152 := hst.out.2.2.1
   have hd1 : 1 ≤ d ∧ d ≤ l.length - pos := ⟨hst.out.1, by have := hst.out.2.1; rwa [List.length_drop] at this⟩
   obtain ⟨w1, hw1⟩ : ∃ w1, wr.iterAt (w.heap.size + 1) ⟨l.toArray⟩ (pos + d) = w1 := ⟨_, rfl⟩
   have kI : Hd (Kp (· = w.heap.size + 1) wr w1) := ⟨by rw [← hw1]; exact kp_iterAt (Kp.refl _ _) _ _ _ (.inr rfl)⟩
   have hit1 : Hd (w1.heap[w.heap.size + 1]? = some (.stringIter ⟨l.toArray⟩ (pos + d))) := ⟨by rw [← hw1]; exact Lib.iterAt_heap _ _ _ _ _ hO.out.it⟩
   have D1 : Hd (Fd fl A nf c w0 w1 p m) := ⟨by rw [← hnf.out]; exact hO.out.fd.keep kI.out (by omega) (by omega) (fun k hk => by omega)⟩
   have K1 : Hd (Kp (· = m) w w1) := ⟨by rw [← hw1]; exact kp_iterAt hO.out.kp _ _ _ (.inl (by omega))⟩
   have c1 : Hd (w1.cell? ⟨w.heap.size, 2, none⟩ = some (.int .i64 cap)) := ⟨kI.out.see hO.out.cap (by show ¬ (w.heap.size = w.heap.size + 1); omega)⟩
   have hw1 := Hd.mk hw1
   have hru := Hd.mk (frune_at (w := w1) (w0 := w0) (A := A) (c := c) (p := p) (m := m) fl (v : Int) (by omega) (by rw [hnf.out]; exact HF.out) Hck.out (by rw [hnf.out]; exact D1.out))
   rw [hnf.out] at hru
   obtain ⟨b, hb⟩ : ∃ b, Hd (lett (v : Int) = b) := ⟨_, ⟨rfl⟩⟩
   obtain ⟨z, hz⟩ : ∃ z, Hd (fone fl (v : Int) = z) := ⟨_, ⟨rfl⟩⟩
   rw [hz.out] at hru
   cases b
   ·go_wp2_with (first | ((with_reducible refine wl_run rfl (ex_next _ (.tmp 11) rfl (w.heap.size + 1) ⟨l.toArray⟩ pos v d rfl hO.out.it hlt2.out hvd.out) ?_); rw [hw1.out]) | (go_at_call 132; with_reducible refine (letter_b (v : Int) _ hb.out _).mono ?_; rintro e w' ⟨rfl, rfl⟩; dsimp only))
    go_ret
    exact ⟨⟨false, rfl, ⟨fun h => (by cases h), fun h => absurd h (okW_bad hO.out.pf hst.out (fun h => by rw [hb.out] at h; cases h.1))⟩⟩, by rw [hnf.out]; exact D1.out, K1.out⟩
   ·by_cases hzv : z = (v : Int)
    ·subst hzv
     go_wp2_with (first | ((with_reducible refine wl_run rfl (ex_next _ (.tmp 11) rfl (w.heap.size + 1) ⟨l.toArray⟩ pos v d rfl hO.out.it hlt2.out hvd.out) ?_); rw [hw1.out]) | (go_at_call 132; with_reducible refine (letter_b (v : Int) _ hb.out _).mono ?_; rintro e w' ⟨rfl, rfl⟩; dsimp only) | (go_at_call 134; refine hru.out.mono ?_; rintro e w2 ⟨rfl, D2, k2⟩; have D2 := Hd.mk D2; have k2 := Hd.mk k2; dsimp only))
     refine ⟨⟨out ++ [v], pos + d, by simp only [List.length_append, List.length_cons, List.length_nil]; go_num, by rw [List.length_append]; simp only [List.length_cons, List.length_nil]; omega, ?_, by omega, ⟨?_⟩⟩, ?_⟩
     ·simp only [World.iterPos, k2.out.keeps hit1.out (by omega)]
     ·refine ⟨k2.out.keeps hit1.out (by omega), ?_, by rw [hnf.out]; exact D2.out, K1.out.andThen k2.out (fun i hi e => e), fun r hr => ?_, k2.out.see c1.out (by show ¬ (w.heap.size = m); omega)⟩
      ·have := hO.out.pf.next hst.out
       rwa [List.drop_drop] at this
      ·rcases List.mem_append.1 hr with hr | hr
       ·exact hO.out.good r hr
       ·simp only [List.mem_singleton] at hr
        subst hr
        exact ⟨hb.out, hz.out⟩
     ·rw [hip]
      simp only [World.iterPos, k2.out.keeps hit1.out (show ¬ (w.heap.size + 1 = m) by omega)]
      omega
    ·have hzI : Hd (decide (z ≠ (v : Int)) = true) := ⟨decide_eq_true hzv⟩
     have hzv := Hd.mk hzv
     go_wp2_with (first | ((with_reducible refine wl_run rfl (ex_next _ (.tmp 11) rfl (w.heap.size + 1) ⟨l.toArray⟩ pos v d rfl hO.out.it hlt2.out hvd.out) ?_); rw [hw1.out]) | (go_at_call 132; with_reducible refine (letter_b (v : Int) _ hb.out _).mono ?_; rintro e w' ⟨rfl, rfl⟩; dsimp only) | (go_at_call 134; refine hru.out.mono ?_; rintro e w2 ⟨rfl, D2, k2⟩; have D2 := Hd.mk D2; have k2 := Hd.mk k2; dsimp only) | ((with_reducible refine wl_runG ?hw (ex_neq _ 21 21 (.tmp 21) (.tmp 22) rfl .i32 z (v : Int) rfl rfl true hzI.out) ?_); (case hw => rfl); simp only [Act.put, uA, uB, uC]))
     go_ret
     exact ⟨⟨false, rfl, ⟨fun h => (by cases h), fun h => absurd h (okW_bad hO.out.pf hst.out (fun h => hzv.out (by rw [← hz.out]; exact h.2)))⟩⟩, by rw [hnf.out]; exact D2.out, K1.out.andThen k2.out (fun i hi e => e)⟩
  ·have hlt2 : Hd (¬ pos < (⟨l.toArray⟩ : ByteArray).size) := ⟨by rw [hsz.out]; exact hlt⟩
   have hpe : l.drop pos = [] := List.drop_of_length_le (by omega)
   have hRs : Hd (Rs out l) := ⟨by have := hO.out.pf; rw [hpe] at this; exact this.end⟩
   have hiff := Hd.mk (okW_iff (fl := fl) (cap := cap) hRs.out)
   have d0 := hO.out.cap
   obtain ⟨q, hq⟩ : ∃ q, out.length = q := ⟨_, rfl⟩
   rw [hq] at hop ⊢
   have hq := Hd.mk hq
   by_cases hq0 : 0 < q
   ·have hq0I : (0 : Int) < (q : Int) := by omega
    by_cases hqc : (q : Int) ≤ cap
    ·go_wp2_with (with_reducible refine wl_run rfl (ex_nextEnd _ (.tmp 11) rfl (w.heap.size + 1) ⟨l.toArray⟩ pos rfl hO.out.it hlt2.out) ?_)
     go_ret
     exact ⟨⟨true, rfl, ⟨fun _ => hiff.out.2 ⟨hO.out.good, by rw [hq.out]; omega, by rw [hq.out]; exact hqc⟩, fun _ => rfl⟩⟩, by rw [hnf.out]; have := hO.out.fd; rw [hnf.out] at this; exact this, hO.out.kp⟩
    ·go_wp2_with (with_reducible refine wl_run rfl (ex_nextEnd _ (.tmp 11) rfl (w.heap.size + 1) ⟨l.toArray⟩ pos rfl hO.out.it hlt2.out) ?_)
     go_ret
     exact ⟨⟨false, rfl, ⟨fun h => (by cases h), fun h => absurd (hiff.out.1 h).2.2 (by rw [hq.out]; omega)⟩⟩, by rw [hnf.out]; have := hO.out.fd; rw [hnf.out] at this; exact this, hO.out.kp⟩
   ·have hq0I : ¬ (0 : Int) < (q : Int) := by omega
    go_wp2_with (with_reducible refine wl_run rfl (ex_nextEnd _ (.tmp 11) rfl (w.heap.size + 1) ⟨l.toArray⟩ pos rfl hO.out.it hlt2.out) ?_)
    go_ret
    exact ⟨⟨false, rfl, ⟨fun h => (by cases h), fun h => absurd (hiff.out.1 h).2.1 (by rw [hq.out]; omega)⟩⟩, by rw [hnf.out]; have := hO.out.fd; rw [hnf.out] at this; exact this, hO.out.kp⟩
end Go.Proofs.YtkcechpaeilaeaaGreatDoor
