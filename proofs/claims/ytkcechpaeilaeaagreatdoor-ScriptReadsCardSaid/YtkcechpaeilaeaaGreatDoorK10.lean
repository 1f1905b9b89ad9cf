/- Joined out of: L10. -/
import Derived.Test.YtkcechpaeilaeaaGreatDoorK5
import Derived.Test.YtkcechpaeilaeaaGreatDoorK9
import Derived.Test.YtkcechpaeilaeaaGreatDoorK6
set_option linter.unusedVariables false
set_option linter.unusedSimpArgs false
namespace Go.Proofs.YtkcechpaeilaeaaGreatDoor
open Go.RowKit
set_option maxRecDepth 100000
set_option maxHeartbeats 4000000 in
theorem rline_at (a : A) {w : World} (At : Option Addr) (ct : Nat) (Ap : Option Addr) (cp : Nat) (hT : Bs w (.slice At a.t.length ct) (ints a.t)) (hP : Bs w (.slice Ap a.p.length cp) (ints a.p)) :
  Calls Tryz.prog 10 #[.agg #[.int .i64 a.d, .string ⟨a.k.toArray⟩, .slice At a.t.length ct, .int .i64 a.n, .slice Ap a.p.length cp]] w fun e w' => e = .returned (lineV a) ∧ KZ w w' := by
 have hm := Hd.mk (rmay_at a)
 by_cases hy : may a
 ·rw [lineV_yes hy]
  have hy1 : Hd (decide (may a) = true) := ⟨decide_eq_true hy⟩
  obtain ⟨d, k, t, n, p⟩ := a
  simp only at hT hP hm ⊢
  have z1 : 1 ≤ d := hy.1
  have z1' : d ≤ 14 := hy.2.1
  have z2 : k.length ≤ 2000 := hy.2.2.1
  have z3 : t.length ≤ 2000 := hy.2.2.2.1
  have z4 : p.length ≤ 200 := hy.2.2.2.2.1
  have z5 : 0 ≤ n := hy.2.2.2.2.2.1
  have z6 : n ≤ 1048576 := hy.2.2.2.2.2.2.1
  have hd : Hd (1 ≤ d ∧ d ≤ 14) := ⟨⟨z1, z1'⟩⟩
  have q2 := quote_length k false
  have q3 := quote_length t true
  have q1 := Lib.itoa_length_le n (by omega) (by omega)
  have hn0 : Hd (0 ≤ n ∧ n < 1000000000) := ⟨by omega⟩
  have hk9 : Hd (k.length < 100000000) := ⟨by omega⟩
  have ht9 : Hd (t.length < 100000000) := ⟨by omega⟩
  have z4i : (p.length : Int) ≤ 200 := by omega
  obtain ⟨S0, h0⟩ : ∃ s, Hd (s = nm d) := ⟨_, ⟨rfl⟩⟩
  have l00 : S0.length ≤ 7 := by rw [h0.out]; exact nm_len d
  obtain ⟨L, hL⟩ : ∃ L, Hd (L = nm d ++ ((if hn d then 32 :: Lib.itoa n else []) ++ ((if hk d then 32 :: quote k false else []) ++ (if ht d then 32 :: quote t true else [])))) := ⟨_, ⟨rfl⟩⟩
  rw [show line ⟨d, k, t, n, p⟩ = L ++ pk p by rw [hL.out]; simp only [line, fields, List.append_assoc]]
  have hkn : ¬ (hk d = true ∧ hn d = true) := by simp [hk, hn]; omega
  clear z1 z1' z5 z6 hy
  have F := Hd.mk (Fa.new w (.int .i64 d) (.string ⟨k.toArray⟩) (.slice At t.length ct) (.int .i64 n) (.slice Ap p.length cp))
  have K : Hd (KZ w (w.alloc (.cells #[.int .i64 d, .string ⟨k.toArray⟩, .slice At t.length ct, .int .i64 n, .slice Ap p.length cp] 24))) := ⟨(Kp.refl _ w).alloc _⟩
  have hT := Hd.mk hT
  have hP := Hd.mk hP
  obtain ⟨hnd, ehn⟩ : ∃ b, Hd (hn d = b) := ⟨_, ⟨rfl⟩⟩
  obtain ⟨hkd, ehk⟩ : ∃ b, Hd (hk d = b) := ⟨_, ⟨rfl⟩⟩
  obtain ⟨htd, eht⟩ : ∃ b, Hd (ht d = b) := ⟨_, ⟨rfl⟩⟩
  cases hkd
  ·skip
   cases hnd
   ·clear hkn
    cases htd
    ·have hcur : Hd (S0 = L) := ⟨by rw [hL.out, ehn.out, ehk.out, eht.out, h0.out]; simp only [Bool.false_eq_true, if_false, if_true, List.nil_append, List.append_nil, List.append_assoc, List.cons_append]⟩
     go_enter Tryz.func10, Tryz.ntmps10
     go_wp2_with (first | (go_at_call 44; refine (hm.out _ At ct Ap cp).mono ?_; rw [hy1.out]; rintro e w2 ⟨rfl, hk1⟩; have K2 := Hd.mk (K.out.th hk1); have F2 := Hd.mk (F.out.keep hk1); clear K F; have K := K2; have F := F2; clear K2 F2; clear hk1; dsimp only) | (go_at_call 45; refine (rname_d hd.out.1 hd.out.2 _).mono ?_; rw [← h0.out]; rintro e w2 ⟨rfl, hk1⟩; have K2 := Hd.mk (K.out.th hk1); have F2 := Hd.mk (F.out.keep hk1); clear K F; have K := K2; have F := F2; clear K2 F2; clear hk1; dsimp only) | (go_at_call 46; refine (rk_at d _).mono ?_; rw [ehk.out]; rintro e w2 ⟨rfl, rfl⟩; dsimp only) | (go_at_call 47; refine (rn_at d _).mono ?_; rw [ehn.out]; rintro e w2 ⟨rfl, rfl⟩; dsimp only) | (go_at_call 49; refine (rt_at d _).mono ?_; rw [eht.out]; rintro e w2 ⟨rfl, rfl⟩; dsimp only) | (with_reducible refine wl_run rfl (ex_load _ 3 _ (.int .i64 d) rfl ⟨w.heap.size, 0, none⟩ U3 rfl rfl F.out.c0) ?_))
     have l0 : S0.length ≤ 100000 := by omega
     have hL2 : Hd (∀ q, L ++ q = S0 ++ q) := ⟨fun q => by rw [hcur.out]⟩
     go_loopw [4, 5] (fun v4 v5 wr => ∃ (j : Nat) (l : List UInt8), v4 = .string ⟨l.toArray⟩ ∧ v5 = .int .i64 j ∧ (j : Int) ≤ (p.length : Int) ∧ l.length ≤ 100000 + 100 * j ∧ Hd (l = S0 ++ pk (p.take j)) ∧ Hd (KZ w wr) ∧ Hd (Fa wr w.heap.size (.int .i64 d) (.string ⟨k.toArray⟩) (.slice At t.length ct) (.int .i64 n) (.slice Ap p.length cp))) (fun _ v5 _ => p.length - (intOf v5).toNat)
     case atStart => exact ⟨0, S0, rfl, rfl, by omega, by omega, ⟨by simp [pk]⟩, K, F⟩
     case round =>
      clear K F
      obtain ⟨j, l, rfl, rfl, hj, hll, hl, K, F⟩ := hrel
      by_cases hlt : j < p.length
      ·obtain ⟨b, o, hAp, hc0', hb⟩ := bs_at hP.out hlt
       subst hAp
       have hc1 := Hd.mk (K.out.see hc0' id)
       have hlt2 : (j : Int) < p.length := by omega
       have hpj := Hd.mk (pk_take (List.getElem?_eq_getElem hlt))
       generalize p[j] = c at *
       have hc256 := c.toNat_lt
       have q1 := Lib.itoa_length_le (c.toNat : Int) (by omega) (by omega)
       obtain ⟨B1, hB1⟩ : ∃ s, Hd (s = l ++ [32]) := ⟨_, ⟨rfl⟩⟩
       have lB1 : B1.length = l.length + 1 := by rw [hB1.out]; simp
       obtain ⟨B2, hB2⟩ : ∃ s, Hd (s = B1 ++ Lib.itoa (c.toNat : Int)) := ⟨_, ⟨rfl⟩⟩
       have lB2 : B2.length = B1.length + (Lib.itoa (c.toNat : Int)).length := by rw [hB2.out, List.length_append]
       have m1 : Hd (l.length + ([32] : List UInt8).length ≤ 9000000000000000000) := ⟨by simp only [List.length_cons, List.length_nil]; omega⟩
       have m2 : Hd (B1.length + (Lib.itoa (c.toNat : Int)).length ≤ 9000000000000000000) := ⟨by omega⟩
       have l2 : B2.length ≤ 100000 + 100 * (j + 1) := by omega
       have hn1 : Hd (0 ≤ (c.toNat : Int) ∧ (c.toNat : Int) < 1000000000) := ⟨by omega⟩
       clear q1 hc256 hc0' hb hlt lB1 lB2
       go_wp2_with (first | (with_reducible refine wl_run rfl (ex_load _ 22 _ (.slice (some ⟨b, o, none⟩) p.length cp) rfl ⟨w.heap.size, 4, none⟩ U22 rfl rfl F.out.c4) ?_) | (with_reducible refine wl_run rfl (ex_load _ 5 _ (.int .u8 (c.toNat : Int)) rfl ⟨b, o + j, none⟩ U5 rfl rfl hc1.out) ?_) | (with_reducible refine wl_run rfl (ex_toi64 _ 5 3 (.tmp 53) rfl (by kernel_rfl) U3 .u8 c.toNat (UInt8.toNat_lt c) rfl) ?_) | (go_at_call 48; (with_reducible refine (number_z hn1.out.1 hn1.out.2 _).mono ?_); rintro e w2 ⟨rfl, hk1⟩; have K2 := Hd.mk (K.out.th hk1); have F2 := Hd.mk (F.out.keep hk1); clear K F; have K := K2; have F := F2; clear K2 F2; clear hk1; dsimp only) | (with_reducible refine wl_run rfl (ex_scatv _ 9 9 (.tmp 47) (.const (.string ⟨#[32]⟩)) rfl l [32] B1 m1.out hB1.out rfl rfl) ?_) | (with_reducible refine wl_run rfl (ex_scatv _ 9 9 (.tmp 48) (.tmp 55) rfl B1 (Lib.itoa (c.toNat : Int)) B2 m2.out hB2.out rfl rfl) ?_))
       refine ⟨⟨j + 1, B2, rfl, by go_num, by omega, l2, ⟨?_⟩, K, F⟩, by simp [intOf]; omega⟩
       rw [hpj.out, hB2.out, hB1.out, hl.out]
       simp only [List.append_assoc, List.cons_append, List.nil_append]
      ·have hk2 : (j : Int) = p.length := by omega
       have hl2 : Hd (l = L ++ pk p) := ⟨by rw [hl.out, hL2.out, show p.take j = p by rw [show j = p.length by omega, List.take_length]]⟩
       clear hlt
       go_wp2_with (first | (with_reducible refine wl_run rfl (ex_load _ 22 _ (.slice Ap p.length cp) rfl ⟨w.heap.size, 4, none⟩ U22 rfl rfl F.out.c4) ?_))
       go_ret2
       exact ⟨by rw [← hl2.out]; rfl, K.out⟩
    ·obtain ⟨A5, hA5⟩ : ∃ s, Hd (s = S0 ++ [32]) := ⟨_, ⟨rfl⟩⟩
     have lA5 : A5.length = S0.length + 1 := by rw [hA5.out]; simp
     obtain ⟨A6, hA6⟩ : ∃ s, Hd (s = A5 ++ quote t true) := ⟨_, ⟨rfl⟩⟩
     have lA6 : A6.length = A5.length + (quote t true).length := by rw [hA6.out, List.length_append]
     have mA5 : Hd (S0.length + ([32] : List UInt8).length ≤ 9000000000000000000) := ⟨by simp only [List.length_cons, List.length_nil]; omega⟩
     have mA6 : Hd (A5.length + (quote t true).length ≤ 9000000000000000000) := ⟨by omega⟩
     have hcur : Hd (A6 = L) := ⟨by rw [hL.out, ehn.out, ehk.out, eht.out, hA6.out, hA5.out, h0.out]; simp only [Bool.false_eq_true, if_false, if_true, List.nil_append, List.append_nil, List.append_assoc, List.cons_append]⟩
     go_enter Tryz.func10, Tryz.ntmps10
     go_wp2_with (first | (go_at_call 44; refine (hm.out _ At ct Ap cp).mono ?_; rw [hy1.out]; rintro e w2 ⟨rfl, hk1⟩; have K2 := Hd.mk (K.out.th hk1); have F2 := Hd.mk (F.out.keep hk1); clear K F; have K := K2; have F := F2; clear K2 F2; clear hk1; dsimp only) | (go_at_call 45; refine (rname_d hd.out.1 hd.out.2 _).mono ?_; rw [← h0.out]; rintro e w2 ⟨rfl, hk1⟩; have K2 := Hd.mk (K.out.th hk1); have F2 := Hd.mk (F.out.keep hk1); clear K F; have K := K2; have F := F2; clear K2 F2; clear hk1; dsimp only) | (go_at_call 46; refine (rk_at d _).mono ?_; rw [ehk.out]; rintro e w2 ⟨rfl, rfl⟩; dsimp only) | (go_at_call 47; refine (rn_at d _).mono ?_; rw [ehn.out]; rintro e w2 ⟨rfl, rfl⟩; dsimp only) | (go_at_call 49; refine (rt_at d _).mono ?_; rw [eht.out]; rintro e w2 ⟨rfl, rfl⟩; dsimp only) | (with_reducible refine wl_run rfl (ex_load _ 3 _ (.int .i64 d) rfl ⟨w.heap.size, 0, none⟩ U3 rfl rfl F.out.c0) ?_) | (with_reducible refine wl_run rfl (ex_load _ 22 _ (.slice At t.length ct) rfl ⟨w.heap.size, 2, none⟩ U22 rfl rfl F.out.c2) ?_) | (with_reducible refine wl_run rfl (ex_scatv _ 9 9 (.tmp 34) (.const (.string ⟨#[32]⟩)) rfl S0 [32] A5 mA5.out hA5.out rfl rfl) ?_) | (with_reducible refine wl_run rfl (ex_scatv _ 9 9 (.tmp 35) (.tmp 38) rfl A5 (quote t true) A6 mA6.out hA6.out rfl rfl) ?_) | (go_at_call 18; (with_reducible refine (rquote_at (Bs.keep hT.out (fun b hb _ => K.out.block b hb id)) true ht9.out).mono ?_); rintro e w2 ⟨rfl, hk1⟩; have K2 := Hd.mk (K.out.th hk1); have F2 := Hd.mk (F.out.keep hk1); clear K F; have K := K2; have F := F2; clear K2 F2; clear hk1; dsimp only))
     have l0 : A6.length ≤ 100000 := by omega
     have hL2 : Hd (∀ q, L ++ q = A6 ++ q) := ⟨fun q => by rw [hcur.out]⟩
     go_loopw [4, 5] (fun v4 v5 wr => ∃ (j : Nat) (l : List UInt8), v4 = .string ⟨l.toArray⟩ ∧ v5 = .int .i64 j ∧ (j : Int) ≤ (p.length : Int) ∧ l.length ≤ 100000 + 100 * j ∧ Hd (l = A6 ++ pk (p.take j)) ∧ Hd (KZ w wr) ∧ Hd (Fa wr w.heap.size (.int .i64 d) (.string ⟨k.toArray⟩) (.slice At t.length ct) (.int .i64 n) (.slice Ap p.length cp))) (fun _ v5 _ => p.length - (intOf v5).toNat)
     case atStart => exact ⟨0, A6, rfl, rfl, by omega, by omega, ⟨by simp [pk]⟩, K, F⟩
     case round =>
      clear K F
      obtain ⟨j, l, rfl, rfl, hj, hll, hl, K, F⟩ := hrel
      by_cases hlt : j < p.length
      ·obtain ⟨b, o, hAp, hc0', hb⟩ := bs_at hP.out hlt
       subst hAp
       have hc1 := Hd.mk (K.out.see hc0' id)
       have hlt2 : (j : Int) < p.length := by omega
       have hpj := Hd.mk (pk_take (List.getElem?_eq_getElem hlt))
       generalize p[j] = c at *
       have hc256 := c.toNat_lt
       have q1 := Lib.itoa_length_le (c.toNat : Int) (by omega) (by omega)
       obtain ⟨B1, hB1⟩ : ∃ s, Hd (s = l ++ [32]) := ⟨_, ⟨rfl⟩⟩
       have lB1 : B1.length = l.length + 1 := by rw [hB1.out]; simp
       obtain ⟨B2, hB2⟩ : ∃ s, Hd (s = B1 ++ Lib.itoa (c.toNat : Int)) := ⟨_, ⟨rfl⟩⟩
       have lB2 : B2.length = B1.length + (Lib.itoa (c.toNat : Int)).length := by rw [hB2.out, List.length_append]
       have m1 : Hd (l.length + ([32] : List UInt8).length ≤ 9000000000000000000) := ⟨by simp only [List.length_cons, List.length_nil]; omega⟩
       have m2 : Hd (B1.length + (Lib.itoa (c.toNat : Int)).length ≤ 9000000000000000000) := ⟨by omega⟩
       have l2 : B2.length ≤ 100000 + 100 * (j + 1) := by omega
       have hn1 : Hd (0 ≤ (c.toNat : Int) ∧ (c.toNat : Int) < 1000000000) := ⟨by omega⟩
       clear q1 hc256 hc0' hb hlt lB1 lB2
       go_wp2_with (first | (with_reducible refine wl_run rfl (ex_load _ 22 _ (.slice (some ⟨b, o, none⟩) p.length cp) rfl ⟨w.heap.size, 4, none⟩ U22 rfl rfl F.out.c4) ?_) | (with_reducible refine wl_run rfl (ex_load _ 5 _ (.int .u8 (c.toNat : Int)) rfl ⟨b, o + j, none⟩ U5 rfl rfl hc1.out) ?_) | (with_reducible refine wl_run rfl (ex_toi64 _ 5 3 (.tmp 53) rfl (by kernel_rfl) U3 .u8 c.toNat (UInt8.toNat_lt c) rfl) ?_) | (go_at_call 48; (with_reducible refine (number_z hn1.out.1 hn1.out.2 _).mono ?_); rintro e w2 ⟨rfl, hk1⟩; have K2 := Hd.mk (K.out.th hk1); have F2 := Hd.mk (F.out.keep hk1); clear K F; have K := K2; have F := F2; clear K2 F2; clear hk1; dsimp only) | (with_reducible refine wl_run rfl (ex_scatv _ 9 9 (.tmp 47) (.const (.string ⟨#[32]⟩)) rfl l [32] B1 m1.out hB1.out rfl rfl) ?_) | (with_reducible refine wl_run rfl (ex_scatv _ 9 9 (.tmp 48) (.tmp 55) rfl B1 (Lib.itoa (c.toNat : Int)) B2 m2.out hB2.out rfl rfl) ?_))
       refine ⟨⟨j + 1, B2, rfl, by go_num, by omega, l2, ⟨?_⟩, K, F⟩, by simp [intOf]; omega⟩
       rw [hpj.out, hB2.out, hB1.out, hl.out]
       simp only [List.append_assoc, List.cons_append, List.nil_append]
      ·have hk2 : (j : Int) = p.length := by omega
       have hl2 : Hd (l = L ++ pk p) := ⟨by rw [hl.out, hL2.out, show p.take j = p by rw [show j = p.length by omega, List.take_length]]⟩
       clear hlt
       go_wp2_with (first | (with_reducible refine wl_run rfl (ex_load _ 22 _ (.slice Ap p.length cp) rfl ⟨w.heap.size, 4, none⟩ U22 rfl rfl F.out.c4) ?_))
       go_ret2
       exact ⟨by rw [← hl2.out]; rfl, K.out⟩
   ·clear hkn
    cases htd
    ·obtain ⟨A3, hA3⟩ : ∃ s, Hd (s = S0 ++ [32]) := ⟨_, ⟨rfl⟩⟩
     have lA3 : A3.length = S0.length + 1 := by rw [hA3.out]; simp
     obtain ⟨A4, hA4⟩ : ∃ s, Hd (s = A3 ++ Lib.itoa n) := ⟨_, ⟨rfl⟩⟩
     have lA4 : A4.length = A3.length + (Lib.itoa n).length := by rw [hA4.out, List.length_append]
     have mA3 : Hd (S0.length + ([32] : List UInt8).length ≤ 9000000000000000000) := ⟨by simp only [List.length_cons, List.length_nil]; omega⟩
     have mA4 : Hd (A3.length + (Lib.itoa n).length ≤ 9000000000000000000) := ⟨by omega⟩
     have hcur : Hd (A4 = L) := ⟨by rw [hL.out, ehn.out, ehk.out, eht.out, hA4.out, hA3.out, h0.out]; simp only [Bool.false_eq_true, if_false, if_true, List.nil_append, List.append_nil, List.append_assoc, List.cons_append]⟩
     go_enter Tryz.func10, Tryz.ntmps10
     go_wp2_with (first | (go_at_call 44; refine (hm.out _ At ct Ap cp).mono ?_; rw [hy1.out]; rintro e w2 ⟨rfl, hk1⟩; have K2 := Hd.mk (K.out.th hk1); have F2 := Hd.mk (F.out.keep hk1); clear K F; have K := K2; have F := F2; clear K2 F2; clear hk1; dsimp only) | (go_at_call 45; refine (rname_d hd.out.1 hd.out.2 _).mono ?_; rw [← h0.out]; rintro e w2 ⟨rfl, hk1⟩; have K2 := Hd.mk (K.out.th hk1); have F2 := Hd.mk (F.out.keep hk1); clear K F; have K := K2; have F := F2; clear K2 F2; clear hk1; dsimp only) | (go_at_call 46; refine (rk_at d _).mono ?_; rw [ehk.out]; rintro e w2 ⟨rfl, rfl⟩; dsimp only) | (go_at_call 47; refine (rn_at d _).mono ?_; rw [ehn.out]; rintro e w2 ⟨rfl, rfl⟩; dsimp only) | (go_at_call 49; refine (rt_at d _).mono ?_; rw [eht.out]; rintro e w2 ⟨rfl, rfl⟩; dsimp only) | (with_reducible refine wl_run rfl (ex_load _ 3 _ (.int .i64 d) rfl ⟨w.heap.size, 0, none⟩ U3 rfl rfl F.out.c0) ?_) | (with_reducible refine wl_run rfl (ex_load _ 3 _ (.int .i64 n) rfl ⟨w.heap.size, 3, none⟩ U3 rfl rfl F.out.c3) ?_) | (with_reducible refine wl_run rfl (ex_scatv _ 9 9 (.tmp 25) (.const (.string ⟨#[32]⟩)) rfl S0 [32] A3 mA3.out hA3.out rfl rfl) ?_) | (with_reducible refine wl_run rfl (ex_scatv _ 9 9 (.tmp 26) (.tmp 29) rfl A3 (Lib.itoa n) A4 mA4.out hA4.out rfl rfl) ?_) | (go_at_call 48; (with_reducible refine (number_z hn0.out.1 hn0.out.2 _).mono ?_); rintro e w2 ⟨rfl, hk1⟩; have K2 := Hd.mk (K.out.th hk1); have F2 := Hd.mk (F.out.keep hk1); clear K F; have K := K2; have F := F2; clear K2 F2; clear hk1; dsimp only))
     have l0 : A4.length ≤ 100000 := by omega
     have hL2 : Hd (∀ q, L ++ q = A4 ++ q) := ⟨fun q => by rw [hcur.out]⟩
     go_loopw [4, 5] (fun v4 v5 wr => ∃ (j : Nat) (l : List UInt8), v4 = .string ⟨l.toArray⟩ ∧ v5 = .int .i64 j ∧ (j : Int) ≤ (p.length : Int) ∧ l.length ≤ 100000 + 100 * j ∧ Hd (l = A4 ++ pk (p.take j)) ∧ Hd (KZ w wr) ∧ Hd (Fa wr w.heap.size (.int .i64 d) (.string ⟨k.toArray⟩) (.slice At t.length ct) (.int .i64 n) (.slice Ap p.length cp))) (fun _ v5 _ => p.length - (intOf v5).toNat)
     case atStart => exact ⟨0, A4, rfl, rfl, by omega, by omega, ⟨by simp [pk]⟩, K, F⟩
     case round =>
      clear K F
      obtain ⟨j, l, rfl, rfl, hj, hll, hl, K, F⟩ := hrel
      by_cases hlt : j < p.length
      ·obtain ⟨b, o, hAp, hc0', hb⟩ := bs_at hP.out hlt
       subst hAp
       have hc1 := Hd.mk (K.out.see hc0' id)
       have hlt2 : (j : Int) < p.length := by omega
       have hpj := Hd.mk (pk_take (List.getElem?_eq_getElem hlt))
       generalize p[j] = c at *
       have hc256 := c.toNat_lt
       have q1 := Lib.itoa_length_le (c.toNat : Int) (by omega) (by omega)
       obtain ⟨B1, hB1⟩ : ∃ s, Hd (s = l ++ [32]) := ⟨_, ⟨rfl⟩⟩
       have lB1 : B1.length = l.length + 1 := by rw [hB1.out]; simp
       obtain ⟨B2, hB2⟩ : ∃ s, Hd (s = B1 ++ Lib.itoa (c.toNat : Int)) := ⟨_, ⟨rfl⟩⟩
       have lB2 : B2.length = B1.length + (Lib.itoa (c.toNat : Int)).length := by rw [hB2.out, List.length_append]
       have m1 : Hd (l.length + ([32] : List UInt8).length ≤ 9000000000000000000) := ⟨by simp only [List.length_cons, List.length_nil]; omega⟩
       have m2 : Hd (B1.length + (Lib.itoa (c.toNat : Int)).length ≤ 9000000000000000000) := ⟨by omega⟩
       have l2 : B2.length ≤ 100000 + 100 * (j + 1) := by omega
       have hn1 : Hd (0 ≤ (c.toNat : Int) ∧ (c.toNat : Int) < 1000000000) := ⟨by omega⟩
       clear q1 hc256 hc0' hb hlt lB1 lB2
       go_wp2_with (first | (with_reducible refine wl_run rfl (ex_load _ 22 _ (.slice (some ⟨b, o, none⟩) p.length cp) rfl ⟨w.heap.size, 4, none⟩ U22 rfl rfl F.out.c4) ?_) | (with_reducible refine wl_run rfl (ex_load _ 5 _ (.int .u8 (c.toNat : Int)) rfl ⟨b, o + j, none⟩ U5 rfl rfl hc1.out) ?_) | (with_reducible refine wl_run rfl (ex_toi64 _ 5 3 (.tmp 53) rfl (by kernel_rfl) U3 .u8 c.toNat (UInt8.toNat_lt c) rfl) ?_) | (go_at_call 48; (with_reducible refine (number_z hn1.out.1 hn1.out.2 _).mono ?_); rintro e w2 ⟨rfl, hk1⟩; have K2 := Hd.mk (K.out.th hk1); have F2 := Hd.mk (F.out.keep hk1); clear K F; have K := K2; have F := F2; clear K2 F2; clear hk1; dsimp only) | (with_reducible refine wl_run rfl (ex_scatv _ 9 9 (.tmp 47) (.const (.string ⟨#[32]⟩)) rfl l [32] B1 m1.out hB1.out rfl rfl) ?_) | (with_reducible refine wl_run rfl (ex_scatv _ 9 9 (.tmp 48) (.tmp 55) rfl B1 (Lib.itoa (c.toNat : Int)) B2 m2.out hB2.out rfl rfl) ?_))
       refine ⟨⟨j + 1, B2, rfl, by go_num, by omega, l2, ⟨?_⟩, K, F⟩, by simp [intOf]; omega⟩
       rw [hpj.out, hB2.out, hB1.out, hl.out]
       simp only [List.append_assoc, List.cons_append, List.nil_append]
      ·have hk2 : (j : Int) = p.length := by omega
       have hl2 : Hd (l = L ++ pk p) := ⟨by rw [hl.out, hL2.out, show p.take j = p by rw [show j = p.length by omega, List.take_length]]⟩
       clear hlt
       go_wp2_with (first | (with_reducible refine wl_run rfl (ex_load _ 22 _ (.slice Ap p.length cp) rfl ⟨w.heap.size, 4, none⟩ U22 rfl rfl F.out.c4) ?_))
       go_ret2
       exact ⟨by rw [← hl2.out]; rfl, K.out⟩
    ·obtain ⟨A3, hA3⟩ : ∃ s, Hd (s = S0 ++ [32]) := ⟨_, ⟨rfl⟩⟩
     have lA3 : A3.length = S0.length + 1 := by rw [hA3.out]; simp
     obtain ⟨A4, hA4⟩ : ∃ s, Hd (s = A3 ++ Lib.itoa n) := ⟨_, ⟨rfl⟩⟩
     have lA4 : A4.length = A3.length + (Lib.itoa n).length := by rw [hA4.out, List.length_append]
     have mA3 : Hd (S0.length + ([32] : List UInt8).length ≤ 9000000000000000000) := ⟨by simp only [List.length_cons, List.length_nil]; omega⟩
     have mA4 : Hd (A3.length + (Lib.itoa n).length ≤ 9000000000000000000) := ⟨by omega⟩
     obtain ⟨A5, hA5⟩ : ∃ s, Hd (s = A4 ++ [32]) := ⟨_, ⟨rfl⟩⟩
     have lA5 : A5.length = A4.length + 1 := by rw [hA5.out]; simp
     obtain ⟨A6, hA6⟩ : ∃ s, Hd (s = A5 ++ quote t true) := ⟨_, ⟨rfl⟩⟩
     have lA6 : A6.length = A5.length + (quote t true).length := by rw [hA6.out, List.length_append]
     have mA5 : Hd (A4.length + ([32] : List UInt8).length ≤ 9000000000000000000) := ⟨by simp only [List.length_cons, List.length_nil]; omega⟩
     have mA6 : Hd (A5.length + (quote t true).length ≤ 9000000000000000000) := ⟨by omega⟩
     have hcur : Hd (A6 = L) := ⟨by rw [hL.out, ehn.out, ehk.out, eht.out, hA6.out, hA5.out, hA4.out, hA3.out, h0.out]; simp only [Bool.false_eq_true, if_false, if_true, List.nil_append, List.append_nil, List.append_assoc, List.cons_append]⟩
     go_enter Tryz.func10, Tryz.ntmps10
     go_wp2_with (first | (go_at_call 44; refine (hm.out _ At ct Ap cp).mono ?_; rw [hy1.out]; rintro e w2 ⟨rfl, hk1⟩; have K2 := Hd.mk (K.out.th hk1); have F2 := Hd.mk (F.out.keep hk1); clear K F; have K := K2; have F := F2; clear K2 F2; clear hk1; dsimp only) | (go_at_call 45; refine (rname_d hd.out.1 hd.out.2 _).mono ?_; rw [← h0.out]; rintro e w2 ⟨rfl, hk1⟩; have K2 := Hd.mk (K.out.th hk1); have F2 := Hd.mk (F.out.keep hk1); clear K F; have K := K2; have F := F2; clear K2 F2; clear hk1; dsimp only) | (go_at_call 46; refine (rk_at d _).mono ?_; rw [ehk.out]; rintro e w2 ⟨rfl, rfl⟩; dsimp only) | (go_at_call 47; refine (rn_at d _).mono ?_; rw [ehn.out]; rintro e w2 ⟨rfl, rfl⟩; dsimp only) | (go_at_call 49; refine (rt_at d _).mono ?_; rw [eht.out]; rintro e w2 ⟨rfl, rfl⟩; dsimp only) | (with_reducible refine wl_run rfl (ex_load _ 3 _ (.int .i64 d) rfl ⟨w.heap.size, 0, none⟩ U3 rfl rfl F.out.c0) ?_) | (with_reducible refine wl_run rfl (ex_load _ 3 _ (.int .i64 n) rfl ⟨w.heap.size, 3, none⟩ U3 rfl rfl F.out.c3) ?_) | (with_reducible refine wl_run rfl (ex_load _ 22 _ (.slice At t.length ct) rfl ⟨w.heap.size, 2, none⟩ U22 rfl rfl F.out.c2) ?_) | (with_reducible refine wl_run rfl (ex_scatv _ 9 9 (.tmp 25) (.const (.string ⟨#[32]⟩)) rfl S0 [32] A3 mA3.out hA3.out rfl rfl) ?_) | (with_reducible refine wl_run rfl (ex_scatv _ 9 9 (.tmp 26) (.tmp 29) rfl A3 (Lib.itoa n) A4 mA4.out hA4.out rfl rfl) ?_) | (with_reducible refine wl_run rfl (ex_scatv _ 9 9 (.tmp 34) (.const (.string ⟨#[32]⟩)) rfl A4 [32] A5 mA5.out hA5.out rfl rfl) ?_) | (with_reducible refine wl_run rfl (ex_scatv _ 9 9 (.tmp 35) (.tmp 38) rfl A5 (quote t true) A6 mA6.out hA6.out rfl rfl) ?_) | (go_at_call 48; (with_reducible refine (number_z hn0.out.1 hn0.out.2 _).mono ?_); rintro e w2 ⟨rfl, hk1⟩; have K2 := Hd.mk (K.out.th hk1); have F2 := Hd.mk (F.out.keep hk1); clear K F; have K := K2; have F := F2; clear K2 F2; clear hk1; dsimp only) | (go_at_call 18; (with_reducible refine (rquote_at (Bs.keep hT.out (fun b hb _ => K.out.block b hb id)) true ht9.out).mono ?_); rintro e w2 ⟨rfl, hk1⟩; have K2 := Hd.mk (K.out.th hk1); have F2 := Hd.mk (F.out.keep hk1); clear K F; have K := K2; have F := F2; clear K2 F2; clear hk1; dsimp only))
     have l0 : A6.length ≤ 100000 := by omega
     have hL2 : Hd (∀ q, L ++ q = A6 ++ q) := ⟨fun q => by rw [hcur.out]⟩
     go_loopw [4, 5] (fun v4 v5 wr => ∃ (j : Nat) (l : List UInt8), v4 = .string ⟨l.toArray⟩ ∧ v5 = .int .i64 j ∧ (j : Int) ≤ (p.length : Int) ∧ l.length ≤ 100000 + 100 * j ∧ Hd (l = A6 ++ pk (p.take j)) ∧ Hd (KZ w wr) ∧ Hd (Fa wr w.heap.size (.int .i64 d) (.string ⟨k.toArray⟩) (.slice At t.length ct) (.int .i64 n) (.slice Ap p.length cp))) (fun _ v5 _ => p.length - (intOf v5).toNat)
     case atStart => exact ⟨0, A6, rfl, rfl, by omega, by omega, ⟨by simp [pk]⟩, K, F⟩
     case round =>
      clear K F
      obtain ⟨j, l, rfl, rfl, hj, hll, hl, K, F⟩ := hrel
      by_cases hlt : j < p.length
      ·obtain ⟨b, o, hAp, hc0', hb⟩ := bs_at hP.out hlt
       subst hAp
       have hc1 := Hd.mk (K.out.see hc0' id)
       have hlt2 : (j : Int) < p.length := by omega
       have hpj := Hd.mk (pk_take (List.getElem?_eq_getElem hlt))
       generalize p[j] = c at *
       have hc256 := c.toNat_lt
       have q1 := Lib.itoa_length_le (c.toNat : Int) (by omega) (by omega)
       obtain ⟨B1, hB1⟩ : ∃ s, Hd (s = l ++ [32]) := ⟨_, ⟨rfl⟩⟩
       have lB1 : B1.length = l.length + 1 := by rw [hB1.out]; simp
       obtain ⟨B2, hB2⟩ : ∃ s, Hd (s = B1 ++ Lib.itoa (c.toNat : Int)) := ⟨_, ⟨rfl⟩⟩
       have lB2 : B2.length = B1.length + (Lib.itoa (c.toNat : Int)).length := by rw [hB2.out, List.length_append]
       have m1 : Hd (l.length + ([32] : List UInt8).length ≤ 9000000000000000000) := ⟨by simp only [List.length_cons, List.length_nil]; omega⟩
       have m2 : Hd (B1.length + (Lib.itoa (c.toNat : Int)).length ≤ 9000000000000000000) := ⟨by omega⟩
       have l2 : B2.length ≤ 100000 + 100 * (j + 1) := by omega
       have hn1 : Hd (0 ≤ (c.toNat : Int) ∧ (c.toNat : Int) < 1000000000) := ⟨by omega⟩
       clear q1 hc256 hc0' hb hlt lB1 lB2
       go_wp2_with (first | (with_reducible refine wl_run rfl (ex_load _ 22 _ (.slice (some ⟨b, o, none⟩) p.length cp) rfl ⟨w.heap.size, 4, none⟩ U22 rfl rfl F.out.c4) ?_) | (with_reducible refine wl_run rfl (ex_load _ 5 _ (.int .u8 (c.toNat : Int)) rfl ⟨b, o + j, none⟩ U5 rfl rfl hc1.out) ?_) | (with_reducible refine wl_run rfl (ex_toi64 _ 5 3 (.tmp 53) rfl (by kernel_rfl) U3 .u8 c.toNat (UInt8.toNat_lt c) rfl) ?_) | (go_at_call 48; (with_reducible refine (number_z hn1.out.1 hn1.out.2 _).mono ?_); rintro e w2 ⟨rfl, hk1⟩; have K2 := Hd.mk (K.out.th hk1); have F2 := Hd.mk (F.out.keep hk1); clear K F; have K := K2; have F := F2; clear K2 F2; clear hk1; dsimp only) | (with_reducible refine wl_run rfl (ex_scatv _ 9 9 (.tmp 47) (.const (.string ⟨#[32]⟩)) rfl l [32] B1 m1.out hB1.out rfl rfl) ?_) | (with_reducible refine wl_run rfl (ex_scatv _ 9 9 (.tmp 48) (.tmp 55) rfl B1 (Lib.itoa (c.toNat : Int)) B2 m2.out hB2.out rfl rfl) ?_))
       refine ⟨⟨j + 1, B2, rfl, by go_num, by omega, l2, ⟨?_⟩, K, F⟩, by simp [intOf]; omega⟩
       rw [hpj.out, hB2.out, hB1.out, hl.out]
       simp only [List.append_assoc, List.cons_append, List.nil_append]
      ·have hk2 : (j : Int) = p.length := by omega
       have hl2 : Hd (l = L ++ pk p) := ⟨by rw [hl.out, hL2.out, show p.take j = p by rw [show j = p.length by omega, List.take_length]]⟩
       clear hlt
       go_wp2_with (first | (with_reducible refine wl_run rfl (ex_load _ 22 _ (.slice Ap p.length cp) rfl ⟨w.heap.size, 4, none⟩ U22 rfl rfl F.out.c4) ?_))
       go_ret2
       exact ⟨by rw [← hl2.out]; rfl, K.out⟩
  ·skip
   cases hnd
   ·clear hkn
    cases htd
    ·obtain ⟨A1, hA1⟩ : ∃ s, Hd (s = S0 ++ [32]) := ⟨_, ⟨rfl⟩⟩
     have lA1 : A1.length = S0.length + 1 := by rw [hA1.out]; simp
     obtain ⟨A2, hA2⟩ : ∃ s, Hd (s = A1 ++ quote k false) := ⟨_, ⟨rfl⟩⟩
     have lA2 : A2.length = A1.length + (quote k false).length := by rw [hA2.out, List.length_append]
     have mA1 : Hd (S0.length + ([32] : List UInt8).length ≤ 9000000000000000000) := ⟨by simp only [List.length_cons, List.length_nil]; omega⟩
     have mA2 : Hd (A1.length + (quote k false).length ≤ 9000000000000000000) := ⟨by omega⟩
     have hcur : Hd (A2 = L) := ⟨by rw [hL.out, ehn.out, ehk.out, eht.out, hA2.out, hA1.out, h0.out]; simp only [Bool.false_eq_true, if_false, if_true, List.nil_append, List.append_nil, List.append_assoc, List.cons_append]⟩
     go_enter Tryz.func10, Tryz.ntmps10
     go_wp2_with (first | (go_at_call 44; refine (hm.out _ At ct Ap cp).mono ?_; rw [hy1.out]; rintro e w2 ⟨rfl, hk1⟩; have K2 := Hd.mk (K.out.th hk1); have F2 := Hd.mk (F.out.keep hk1); clear K F; have K := K2; have F := F2; clear K2 F2; clear hk1; dsimp only) | (go_at_call 45; refine (rname_d hd.out.1 hd.out.2 _).mono ?_; rw [← h0.out]; rintro e w2 ⟨rfl, hk1⟩; have K2 := Hd.mk (K.out.th hk1); have F2 := Hd.mk (F.out.keep hk1); clear K F; have K := K2; have F := F2; clear K2 F2; clear hk1; dsimp only) | (go_at_call 46; refine (rk_at d _).mono ?_; rw [ehk.out]; rintro e w2 ⟨rfl, rfl⟩; dsimp only) | (go_at_call 47; refine (rn_at d _).mono ?_; rw [ehn.out]; rintro e w2 ⟨rfl, rfl⟩; dsimp only) | (go_at_call 49; refine (rt_at d _).mono ?_; rw [eht.out]; rintro e w2 ⟨rfl, rfl⟩; dsimp only) | (with_reducible refine wl_run rfl (ex_load _ 3 _ (.int .i64 d) rfl ⟨w.heap.size, 0, none⟩ U3 rfl rfl F.out.c0) ?_) | (with_reducible refine wl_run rfl (ex_load _ 9 _ (.string ⟨k.toArray⟩) rfl ⟨w.heap.size, 1, none⟩ U9 rfl rfl F.out.c1) ?_) | (with_reducible refine wl_run rfl (ex_scatv _ 9 9 (.tmp 15) (.const (.string ⟨#[32]⟩)) rfl S0 [32] A1 mA1.out hA1.out rfl rfl) ?_) | (with_reducible refine wl_run rfl (ex_scatv _ 9 9 (.tmp 16) (.tmp 20) rfl A1 (quote k false) A2 mA2.out hA2.out rfl rfl) ?_) | ((with_reducible refine wl_tobytes rfl 9 22 5 (.tmp 18) rfl U9 U22 U5 k rfl ?_); intro vk w2 hvk hk1 _ _; have K2 := Hd.mk (K.out.th hk1); have F2 := Hd.mk (F.out.keep hk1); clear K F; have K := K2; have F := F2; clear K2 F2; clear hk1; have hvk := Hd.mk hvk) | (go_at_call 18; (with_reducible refine (rquote_at hvk.out false hk9.out).mono ?_); rintro e w2 ⟨rfl, hk1⟩; have K2 := Hd.mk (K.out.th hk1); have F2 := Hd.mk (F.out.keep hk1); clear K F; have K := K2; have F := F2; clear K2 F2; clear hk1; dsimp only))
     have l0 : A2.length ≤ 100000 := by omega
     have hL2 : Hd (∀ q, L ++ q = A2 ++ q) := ⟨fun q => by rw [hcur.out]⟩
     go_loopw [4, 5] (fun v4 v5 wr => ∃ (j : Nat) (l : List UInt8), v4 = .string ⟨l.toArray⟩ ∧ v5 = .int .i64 j ∧ (j : Int) ≤ (p.length : Int) ∧ l.length ≤ 100000 + 100 * j ∧ Hd (l = A2 ++ pk (p.take j)) ∧ Hd (KZ w wr) ∧ Hd (Fa wr w.heap.size (.int .i64 d) (.string ⟨k.toArray⟩) (.slice At t.length ct) (.int .i64 n) (.slice Ap p.length cp))) (fun _ v5 _ => p.length - (intOf v5).toNat)
     case atStart => exact ⟨0, A2, rfl, rfl, by omega, by omega, ⟨by simp [pk]⟩, K, F⟩
     case round =>
      clear K F
      obtain ⟨j, l, rfl, rfl, hj, hll, hl, K, F⟩ := hrel
      by_cases hlt : j < p.length
      ·obtain ⟨b, o, hAp, hc0', hb⟩ := bs_at hP.out hlt
       subst hAp
       have hc1 := Hd.mk (K.out.see hc0' id)
       have hlt2 : (j : Int) < p.length := by omega
       have hpj := Hd.mk (pk_take (List.getElem?_eq_getElem hlt))
       generalize p[j] = c at *
       have hc256 := c.toNat_lt
       have q1 := Lib.itoa_length_le (c.toNat : Int) (by omega) (by omega)
       obtain ⟨B1, hB1⟩ : ∃ s, Hd (s = l ++ [32]) := ⟨_, ⟨rfl⟩⟩
       have lB1 : B1.length = l.length + 1 := by rw [hB1.out]; simp
       obtain ⟨B2, hB2⟩ : ∃ s, Hd (s = B1 ++ Lib.itoa (c.toNat : Int)) := ⟨_, ⟨rfl⟩⟩
       have lB2 : B2.length = B1.length + (Lib.itoa (c.toNat : Int)).length := by rw [hB2.out, List.length_append]
       have m1 : Hd (l.length + ([32] : List UInt8).length ≤ 9000000000000000000) := ⟨by simp only [List.length_cons, List.length_nil]; omega⟩
       have m2 : Hd (B1.length + (Lib.itoa (c.toNat : Int)).length ≤ 9000000000000000000) := ⟨by omega⟩
       have l2 : B2.length ≤ 100000 + 100 * (j + 1) := by omega
       have hn1 : Hd (0 ≤ (c.toNat : Int) ∧ (c.toNat : Int) < 1000000000) := ⟨by omega⟩
       clear q1 hc256 hc0' hb hlt lB1 lB2
       go_wp2_with (first | (with_reducible refine wl_run rfl (ex_load _ 22 _ (.slice (some ⟨b, o, none⟩) p.length cp) rfl ⟨w.heap.size, 4, none⟩ U22 rfl rfl F.out.c4) ?_) | (with_reducible refine wl_run rfl (ex_load _ 5 _ (.int .u8 (c.toNat : Int)) rfl ⟨b, o + j, none⟩ U5 rfl rfl hc1.out) ?_) | (with_reducible refine wl_run rfl (ex_toi64 _ 5 3 (.tmp 53) rfl (by kernel_rfl) U3 .u8 c.toNat (UInt8.toNat_lt c) rfl) ?_) | (go_at_call 48; (with_reducible refine (number_z hn1.out.1 hn1.out.2 _).mono ?_); rintro e w2 ⟨rfl, hk1⟩; have K2 := Hd.mk (K.out.th hk1); have F2 := Hd.mk (F.out.keep hk1); clear K F; have K := K2; have F := F2; clear K2 F2; clear hk1; dsimp only) | (with_reducible refine wl_run rfl (ex_scatv _ 9 9 (.tmp 47) (.const (.string ⟨#[32]⟩)) rfl l [32] B1 m1.out hB1.out rfl rfl) ?_) | (with_reducible refine wl_run rfl (ex_scatv _ 9 9 (.tmp 48) (.tmp 55) rfl B1 (Lib.itoa (c.toNat : Int)) B2 m2.out hB2.out rfl rfl) ?_))
       refine ⟨⟨j + 1, B2, rfl, by go_num, by omega, l2, ⟨?_⟩, K, F⟩, by simp [intOf]; omega⟩
       rw [hpj.out, hB2.out, hB1.out, hl.out]
       simp only [List.append_assoc, List.cons_append, List.nil_append]
      ·have hk2 : (j : Int) = p.length := by omega
       have hl2 : Hd (l = L ++ pk p) := ⟨by rw [hl.out, hL2.out, show p.take j = p by rw [show j = p.length by omega, List.take_length]]⟩
       clear hlt
       go_wp2_with (first | (with_reducible refine wl_run rfl (ex_load _ 22 _ (.slice Ap p.length cp) rfl ⟨w.heap.size, 4, none⟩ U22 rfl rfl F.out.c4) ?_))
       go_ret2
       exact ⟨by rw [← hl2.out]; rfl, K.out⟩
    ·obtain ⟨A1, hA1⟩ : ∃ s, Hd (s = S0 ++ [32]) := ⟨_, ⟨rfl⟩⟩
     have lA1 : A1.length = S0.length + 1 := by rw [hA1.out]; simp
     obtain ⟨A2, hA2⟩ : ∃ s, Hd (s = A1 ++ quote k false) := ⟨_, ⟨rfl⟩⟩
     have lA2 : A2.length = A1.length + (quote k false).length := by rw [hA2.out, List.length_append]
     have mA1 : Hd (S0.length + ([32] : List UInt8).length ≤ 9000000000000000000) := ⟨by simp only [List.length_cons, List.length_nil]; omega⟩
     have mA2 : Hd (A1.length + (quote k false).length ≤ 9000000000000000000) := ⟨by omega⟩
     obtain ⟨A5, hA5⟩ : ∃ s, Hd (s = A2 ++ [32]) := ⟨_, ⟨rfl⟩⟩
     have lA5 : A5.length = A2.length + 1 := by rw [hA5.out]; simp
     obtain ⟨A6, hA6⟩ : ∃ s, Hd (s = A5 ++ quote t true) := ⟨_, ⟨rfl⟩⟩
     have lA6 : A6.length = A5.length + (quote t true).length := by rw [hA6.out, List.length_append]
     have mA5 : Hd (A2.length + ([32] : List UInt8).length ≤ 9000000000000000000) := ⟨by simp only [List.length_cons, List.length_nil]; omega⟩
     have mA6 : Hd (A5.length + (quote t true).length ≤ 9000000000000000000) := ⟨by omega⟩
     have hcur : Hd (A6 = L) := ⟨by rw [hL.out, ehn.out, ehk.out, eht.out, hA6.out, hA5.out, hA2.out, hA1.out, h0.out]; simp only [Bool.false_eq_true, if_false, if_true, List.nil_append, List.append_nil, List.append_assoc, List.cons_append]⟩
     go_enter Tryz.func10, Tryz.ntmps10
     go_wp2_with (first | (go_at_call 44; refine (hm.out _ At ct Ap cp).mono ?_; rw [hy1.out]; rintro e w2 ⟨rfl, hk1⟩; have K2 := Hd.mk (K.out.th hk1); have F2 := Hd.mk (F.out.keep hk1); clear K F; have K := K2; have F := F2; clear K2 F2; clear hk1; dsimp only) | (go_at_call 45; refine (rname_d hd.out.1 hd.out.2 _).mono ?_; rw [← h0.out]; rintro e w2 ⟨rfl, hk1⟩; have K2 := Hd.mk (K.out.th hk1); have F2 := Hd.mk (F.out.keep hk1); clear K F; have K := K2; have F := F2; clear K2 F2; clear hk1; dsimp only) | (go_at_call 46; refine (rk_at d _).mono ?_; rw [ehk.out]; rintro e w2 ⟨rfl, rfl⟩; dsimp only) | (go_at_call 47; refine (rn_at d _).mono ?_; rw [ehn.out]; rintro e w2 ⟨rfl, rfl⟩; dsimp only) | (go_at_call 49; refine (rt_at d _).mono ?_; rw [eht.out]; rintro e w2 ⟨rfl, rfl⟩; dsimp only) | (with_reducible refine wl_run rfl (ex_load _ 3 _ (.int .i64 d) rfl ⟨w.heap.size, 0, none⟩ U3 rfl rfl F.out.c0) ?_) | (with_reducible refine wl_run rfl (ex_load _ 9 _ (.string ⟨k.toArray⟩) rfl ⟨w.heap.size, 1, none⟩ U9 rfl rfl F.out.c1) ?_) | (with_reducible refine wl_run rfl (ex_load _ 22 _ (.slice At t.length ct) rfl ⟨w.heap.size, 2, none⟩ U22 rfl rfl F.out.c2) ?_) | (with_reducible refine wl_run rfl (ex_scatv _ 9 9 (.tmp 15) (.const (.string ⟨#[32]⟩)) rfl S0 [32] A1 mA1.out hA1.out rfl rfl) ?_) | (with_reducible refine wl_run rfl (ex_scatv _ 9 9 (.tmp 16) (.tmp 20) rfl A1 (quote k false) A2 mA2.out hA2.out rfl rfl) ?_) | (with_reducible refine wl_run rfl (ex_scatv _ 9 9 (.tmp 34) (.const (.string ⟨#[32]⟩)) rfl A2 [32] A5 mA5.out hA5.out rfl rfl) ?_) | (with_reducible refine wl_run rfl (ex_scatv _ 9 9 (.tmp 35) (.tmp 38) rfl A5 (quote t true) A6 mA6.out hA6.out rfl rfl) ?_) | ((with_reducible refine wl_tobytes rfl 9 22 5 (.tmp 18) rfl U9 U22 U5 k rfl ?_); intro vk w2 hvk hk1 _ _; have K2 := Hd.mk (K.out.th hk1); have F2 := Hd.mk (F.out.keep hk1); clear K F; have K := K2; have F := F2; clear K2 F2; clear hk1; have hvk := Hd.mk hvk) | (go_at_call 18; (with_reducible refine (rquote_at hvk.out false hk9.out).mono ?_); rintro e w2 ⟨rfl, hk1⟩; have K2 := Hd.mk (K.out.th hk1); have F2 := Hd.mk (F.out.keep hk1); clear K F; have K := K2; have F := F2; clear K2 F2; clear hk1; dsimp only) | (go_at_call 18; (with_reducible refine (rquote_at (Bs.keep hT.out (fun b hb _ => K.out.block b hb id)) true ht9.out).mono ?_); rintro e w2 ⟨rfl, hk1⟩; have K2 := Hd.mk (K.out.th hk1); have F2 := Hd.mk (F.out.keep hk1); clear K F; have K := K2; have F := F2; clear K2 F2; clear hk1; dsimp only))
     have l0 : A6.length ≤ 100000 := by omega
     have hL2 : Hd (∀ q, L ++ q = A6 ++ q) := ⟨fun q => by rw [hcur.out]⟩
     go_loopw [4, 5] (fun v4 v5 wr => ∃ (j : Nat) (l : List UInt8), v4 = .string ⟨l.toArray⟩ ∧ v5 = .int .i64 j ∧ (j : Int) ≤ (p.length : Int) ∧ l.length ≤ 100000 + 100 * j ∧ Hd (l = A6 ++ pk (p.take j)) ∧ Hd (KZ w wr) ∧ Hd (Fa wr w.heap.size (.int .i64 d) (.string ⟨k.toArray⟩) (.slice At t.length ct) (.int .i64 n) (.slice Ap p.length cp))) (fun _ v5 _ => p.length - (intOf v5).toNat)
     case atStart => exact ⟨0, A6, rfl, rfl, by omega, by omega, ⟨by simp [pk]⟩, K, F⟩
     case round =>
      clear K F
      obtain ⟨j, l, rfl, rfl, hj, hll, hl, K, F⟩ := hrel
      by_cases hlt : j < p.length
      ·obtain ⟨b, o, hAp, hc0', hb⟩ := bs_at hP.out hlt
       subst hAp
       have hc1 := Hd.mk (K.out.see hc0' id)
       have hlt2 : (j : Int) < p.length := by omega
       have hpj := Hd.mk (pk_take (List.getElem?_eq_getElem hlt))
       generalize p[j] = c at *
       have hc256 := c.toNat_lt
       have q1 := Lib.itoa_length_le (c.toNat : Int) (by omega) (by omega)
       obtain ⟨B1, hB1⟩ : ∃ s, Hd (s = l ++ [32]) := ⟨_, ⟨rfl⟩⟩
       have lB1 : B1.length = l.length + 1 := by rw [hB1.out]; simp
       obtain ⟨B2, hB2⟩ : ∃ s, Hd (s = B1 ++ Lib.itoa (c.toNat : Int)) := ⟨_, ⟨rfl⟩⟩
       have lB2 : B2.length = B1.length + (Lib.itoa (c.toNat : Int)).length := by rw [hB2.out, List.length_append]
       have m1 : Hd (l.length + ([32] : List UInt8).length ≤ 9000000000000000000) := ⟨by simp only [List.length_cons, List.length_nil]; omega⟩
       have m2 : Hd (B1.length + (Lib.itoa (c.toNat : Int)).length ≤ 9000000000000000000) := ⟨by omega⟩
       have l2 : B2.length ≤ 100000 + 100 * (j + 1) := by omega
       have hn1 : Hd (0 ≤ (c.toNat : Int) ∧ (c.toNat : Int) < 1000000000) := ⟨by omega⟩
       clear q1 hc256 hc0' hb hlt lB1 lB2
       go_wp2_with (first | (with_reducible refine wl_run rfl (ex_load _ 22 _ (.slice (some ⟨b, o, none⟩) p.length cp) rfl ⟨w.heap.size, 4, none⟩ U22 rfl rfl F.out.c4) ?_) | (with_reducible refine wl_run rfl (ex_load _ 5 _ (.int .u8 (c.toNat : Int)) rfl ⟨b, o + j, none⟩ U5 rfl rfl hc1.out) ?_) | (with_reducible refine wl_run rfl (ex_toi64 _ 5 3 (.tmp 53) rfl (by kernel_rfl) U3 .u8 c.toNat (UInt8.toNat_lt c) rfl) ?_) | (go_at_call 48; (with_reducible refine (number_z hn1.out.1 hn1.out.2 _).mono ?_); rintro e w2 ⟨rfl, hk1⟩; have K2 := Hd.mk (K.out.th hk1); have F2 := Hd.mk (F.out.keep hk1); clear K F; have K := K2; have F := F2; clear K2 F2; clear hk1; dsimp only) | (with_reducible refine wl_run rfl (ex_scatv _ 9 9 (.tmp 47) (.const (.string ⟨#[32]⟩)) rfl l [32] B1 m1.out hB1.out rfl rfl) ?_) | (with_reducible refine wl_run rfl (ex_scatv _ 9 9 (.tmp 48) (.tmp 55) rfl B1 (Lib.itoa (c.toNat : Int)) B2 m2.out hB2.out rfl rfl) ?_))
       refine ⟨⟨j + 1, B2, rfl, by go_num, by omega, l2, ⟨?_⟩, K, F⟩, by simp [intOf]; omega⟩
       rw [hpj.out, hB2.out, hB1.out, hl.out]
       simp only [List.append_assoc, List.cons_append, List.nil_append]
      ·have hk2 : (j : Int) = p.length := by omega
       have hl2 : Hd (l = L ++ pk p) := ⟨by rw [hl.out, hL2.out, show p.take j = p by rw [show j = p.length by omega, List.take_length]]⟩
       clear hlt
       go_wp2_with (first | (with_reducible refine wl_run rfl (ex_load _ 22 _ (.slice Ap p.length cp) rfl ⟨w.heap.size, 4, none⟩ U22 rfl rfl F.out.c4) ?_))
       go_ret2
       exact ⟨by rw [← hl2.out]; rfl, K.out⟩
   ·exact absurd ⟨ehk.out, ehn.out⟩ hkn
 ·have hy1 : Hd (decide (may a) = false) := ⟨decide_eq_false hy⟩
  rw [lineV_no hy]
  obtain ⟨d, k, t, n, p⟩ := a
  simp only at hm ⊢
  clear hy hT hP
  go_enter Tryz.func10, Tryz.ntmps10
  go_wp2_with (go_at_call 44; refine (hm.out _ At ct Ap cp).mono ?_; rw [hy1.out]; rintro e w1 ⟨rfl, hk1⟩; have K1 : Hd (KZ w w1) := ⟨((Kp.refl _ w).alloc _).th hk1⟩; clear hk1; dsimp only)
  go_ret2
  exact ⟨rfl, K1.out⟩
end Go.Proofs.YtkcechpaeilaeaaGreatDoor
