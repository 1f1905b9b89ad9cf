/- Joined out of: R19. -/
import Derived.Test.YtkcechpaeilaeaaGreatDoorK24
import Derived.Test.YtkcechpaeilaeaaGreatDoorK7
set_option linter.unusedVariables false
set_option linter.unusedSimpArgs false
namespace Go.Proofs.YtkcechpaeilaeaaGreatDoor
open Go.RowKit
set_option maxRecDepth 100000
set_option maxHeartbeats 16000000 in
theorem read_stop {b : Nat} {w : World} {s : Sc} {F S X : Option Addr} {cF cS cA : Nat} {cs : List Value} {k : Nat} (hk : 3 ≤ k) (hs : scOk s) (hR : Rz b w s (.slice F s.fl.length cF) (.slice S s.ss.length cS) (.slice X s.ac.length cA) cs) (hb : b ≤ w.heap.size) (h2 : s.ac = []) (l : List UInt8) (hl : l.length < 70000) (hw : wd l = [115, 116, 111, 112]) :
  Calls Tryz.prog 77 #[.agg #[.int .i64 s.pages, .int .i64 s.cache, .slice F s.fl.length cF, .slice S s.ss.length cS, .int .i64 s.cap, .slice X s.ac.length cA], .int .i64 (k : Int), .string ⟨l.toArray⟩] w fun e w' => ReR b k s l w w' e := by
 obtain ⟨pages, cache, fl, ss, cap, ac⟩ := s
 simp only at h2
 subst h2
 have z2 := hR.za rfl
 simp only [List.length_nil] at z2 hR ⊢
 injection z2 with z2 _ z2'
 subst z2 z2'
 have hm32 : ss.length ≤ 32 := hs.bnd.ns
 obtain ⟨RS, hRS⟩ : ∃ x, Hd (rs l = x) := ⟨_, ⟨rfl⟩⟩
 have hrl : RS.length < 70000 := by rw [← hRS.out]; exact Nat.lt_of_le_of_lt (rs_length _) hl
 have hc := Hd.mk (fun u => rcut_to hw hRS.out hl u)
 have hu : Hd (∀ u, Calls Tryz.prog 15 #[.string ⟨RS.toArray⟩, .bool false] u fun e w' => UqR u w' (uq false RS) e) := ⟨fun u => runquote_at RS false (by omega)⟩
 have hy : Hd (∀ bb, uq false RS = some bb → headOk ⟨pages, cache, fl, ss ++ [bb], cap, []⟩ → Step k ⟨pages, cache, fl, ss, cap, []⟩ l ⟨pages, cache, fl, ss ++ [bb], cap, []⟩) := ⟨fun bb g1 g2 => step_stop_y hk hs rfl hw (b := bb) (by rw [hRS.out]; exact g1) g2⟩
 have hno : Hd (∀ s1, Step k ⟨pages, cache, fl, ss, cap, []⟩ l s1 → ∃ bb, uq false RS = some bb ∧ headOk ⟨pages, cache, fl, ss ++ [bb], cap, []⟩) := ⟨fun s1 g => by
  have := step_stop_n hk hw g
  rw [hRS.out] at this
  exact this⟩
 have hbb : Hd (∀ bb, uq false RS = some bb → bb.length ≤ 2000000) := ⟨fun bb g => by
  have e := (uq_iff false RS bb).1 g
  have := quote_long bb false
  rw [e] at this
  omega⟩
 have hh : Hd (∀ (W : World) (A9 : Option Addr) (c9 : Nat) (bb : List UInt8), uq false RS = some bb → Rz b W ⟨pages, cache, fl, ss ++ [bb], cap, []⟩ (.slice F fl.length cF) (.slice A9 (ss.length + 1) c9) (.slice none 0 0) cs →
   Calls Tryz.prog 70 #[.agg #[.int .i64 pages, .int .i64 cache, .slice F fl.length cF, .slice A9 (ss.length + 1) c9, .int .i64 cap, .slice none 0 0]] W fun e w' => BoR (headOk ⟨pages, cache, fl, ss ++ [bb], cap, []⟩) W w' e) := ⟨fun W A9 c9 bb hx hr => by
  have e : (ss ++ [bb]).length = ss.length + 1 := by simp
  have hsm := small_stop hs (hbb.out bb hx)
  rw [← e] at hr ⊢
  exact rhead_at (w := W) ⟨pages, cache, fl, ss ++ [bb], cap, []⟩ hsm (AA := none) (cA := 0) (Rz.scr2 (s := ⟨pages, cache, fl, ss ++ [bb], cap, []⟩) hr)⟩
 have hO : Hd (Or 0 9 1 w (.slice S ss.length cS) ss.length (wcl ss)) := ⟨Or.mono hR.rs (Nat.zero_le b)⟩
 have hz : Hd (ss.length = 0 → (.slice S ss.length cS : Value) = .slice none 0 0) := ⟨hR.zs⟩
 have hfold : Hd (∀ (W : World) (V : Value) (bb : List UInt8), KZ w W → Or (w.heap.size + 2) 9 1 W V (ss.length + 1) (wcl ss ++ [.string ⟨bb.toArray⟩]) → Rz b W ⟨pages, cache, fl, ss ++ [bb], cap, []⟩ (.slice F fl.length cF) V (.slice none 0 0) cs) := ⟨fun W V bb hk ho => (hR.keep hk).word (x := bb) (ho.mono (by omega))⟩
 have hf1 := Hd.mk (wcl_one ss)
 obtain ⟨n, hn⟩ : ∃ n, fl.length = n := ⟨_, rfl⟩
 obtain ⟨m, hm⟩ : ∃ m, ss.length = m := ⟨_, rfl⟩
 rw [hn] at hh hfold ⊢
 rw [hm] at hm32 hh hO hz hfold ⊢
 have qf : Hd ((([115, 116, 111, 112] : List UInt8) == [102, 111, 108, 100]) = false) := ⟨by decide⟩
 have qs : Hd ((([115, 116, 111, 112] : List UInt8) == [115, 116, 111, 112]) = true) := ⟨by decide⟩
 have q3 : Hd (decide ((k : Int) < 3) = false) := ⟨decide_eq_false (by omega)⟩
 replace hn := Hd.mk hn
 replace hm := Hd.mk hm
 clear hs hR hb hw hl hRS hk hbb hrl
 go_enter Tryz.func77, Tryz.ntmps77
 go_wp2_with fail
 refine (hc.out _).mono ?_
 rintro e w1 ⟨⟨b0, rfl⟩, k1⟩
 have X1 := Hd.mk ((Rx.start w [.int .i64 pages, .int .i64 cache, .slice F n cF, .slice S m cS, .int .i64 cap, .slice none 0 0]).keep k1)
 have c5 : w1.cell? ⟨w.heap.size, 5, none⟩ = some (.slice none 0 0) := X1.out.bx.cell 5
 clear k1
 go_wp2_with (first | (simp only [Bool.false_eq_true, if_false]) | ((with_reducible refine wl_run rfl (ex_lss _ 3 3 (.tmp 24) (.const (.int .i64 3)) rfl .i64 (k : Int) 3 rfl rfl false q3.out) ?_); simp only [Act.put, uA, uB, uC]) | ((with_reducible refine wl_run rfl (ex_seql _ 9 9 (.tmp 55) (.const (.string ⟨#[102, 111, 108, 100]⟩)) rfl [115, 116, 111, 112] [102, 111, 108, 100] false qf.out rfl rfl) ?_); simp only [Act.put, uA, uB, uC]) | ((with_reducible refine wl_run rfl (ex_seql _ 9 9 (.tmp 112) (.const (.string ⟨#[115, 116, 111, 112]⟩)) rfl [115, 116, 111, 112] [115, 116, 111, 112] true qs.out rfl rfl) ?_); simp only [Act.put, uA, uB, uC]))
 refine (hu.out w1).mono ?_
 rintro e w2 hu2
 obtain ⟨v, bb, c, rfl, hv, hvf, hcc, k2⟩ := uqr_any hu2
 have X2 := Hd.mk (X1.out.keep k2)
 replace hcc := Hd.mk hcc
 replace hv := Hd.mk hv
 clear c5 k2 X1 hu hc hu2 hvf
 go_wp2_with (first | (simp only [Bool.false_eq_true, if_false]))
 have hS : Hd ((fun W : World => W.cell? ⟨w.heap.size, 3, none⟩ = some (.slice S m cS) ∧ Bs W v (ints bb)) w2.drew) := ⟨⟨(X2.out.keep (Kp.refl _ w2).drew).bx.cell 3, bs_kpz hv.out (Kp.refl _ w2).drew⟩⟩
 have X3 := Hd.mk (X2.out.keep (Kp.refl _ w2).drew)
 clear X2 hv
 refine rn_begin (fun W : World => W.cell? ⟨w.heap.size, 3, none⟩ = some (.slice S m cS) ∧ Bs W v (ints bb)) (List.range 11) (by kernel_rfl) ?_
 refine rnT [2, 3, 4, 8, 11] 1 126 (.pointer (some ⟨w.heap.size, 2, none⟩)) (erF 53 2 _ rfl w.heap.size 0 2 2 2 Tryz.underlying53 rfl) hS.out ?_
 refine rnT [3, 4, 8, 11] 2 127 (.pointer (some ⟨w.heap.size, 3, none⟩)) (erF 50 1 _ rfl w.heap.size 2 0 1 3 Tryz.underlying50 rfl) hS.out ?_
 refine rnT [4, 8, 11] 3 128 (.slice S m cS) (fun W hW => ex_load W 48 _ _ rfl ⟨w.heap.size, 3, none⟩ U48 rfl rfl hW.1) hS.out ?_
 simp only [Act.put, uA, uB, uC]
 refine rnT [6, 7, 8, 11] 5 130 (v) (rnM rfl rfl) hS.out ?_
 refine rnT [7, 8, 11] 6 131 (.string ⟨(bb).toArray⟩) (fun W hW => ex_tostr W 22 9 5 _ rfl U22 U5 U9 v bb hW.2 rfl) hS.out ?_
 simp only [Act.put, uA, uB, uC]
 have k3 : Hd (KZ w w2.drew) := ⟨X3.out.kp⟩
 refine rn_grow (i := 0) (k := 4) (j := 7) (m := 8) 48 9 1 16 rfl rfl rfl rfl rfl rfl rfl rfl rfl rfl rfl rfl 128 131 rfl rfl rfl rfl (by kernel_rfl) (by kernel_rfl) (by kernel_rfl) (by kernel_rfl) (by kernel_rfl) (by kernel_rfl) (by kernel_rfl) (by kernel_rfl)
  U48 info9b rfl (by decide) (by decide) zero9' (.slice S m cS) m (wcl ss) rfl (hO.out.keep k3.out) hz.out hf1.out (by omega) [.string ⟨bb.toArray⟩]
  (fun b' W he => ex_bs1 W 48 9 _ rfl U48 [.string ⟨bb.toArray⟩] (by rw [he]; rfl) (.string ⟨#[]⟩) [.string ⟨#[]⟩] (zero9' _) rfl info9i rfl (by simp) (by simp)) rfl (by simp [Value.oneCell'])
  (fun W hk => ⟨hk.see hS.out.1 id, bs_kpz hS.out.2 hk⟩) ?_
 intro Vi Vk Vj V w4 ho k4
 have X4 := Hd.mk (X3.out.keep k4)
 have ho4 : Hd (Or (w.heap.size + 2) 9 1 w4 V (m + 1) (wcl ss ++ [.string ⟨bb.toArray⟩])) := ⟨ho.mono X3.out.lt⟩
 have hS4 : Hd ((fun W : World => W.cell? ⟨w.heap.size, 3, none⟩ = some (.slice S m cS) ∧ Bs W v (ints bb)) w4) := ⟨⟨k4.see hS.out.1 id, bs_kpz hS.out.2 k4⟩⟩
 clear ho k4 X3 hS k3
 have hS := hS4
 clear hS4
 obtain ⟨A9, c9, e9, _⟩ := ho4.out.slice
 subst e9
 simp only [Act.put, uA, uB, uC]
 refine rnT [10, 11] 9 134 (.pointer (some ⟨w.heap.size, 2, none⟩)) (erF 53 2 _ rfl w.heap.size 0 2 2 2 Tryz.underlying53 rfl) hS.out ?_
 refine rnT [11] 10 135 (.pointer (some ⟨w.heap.size, 3, none⟩)) (erF 50 1 _ rfl w.heap.size 2 0 1 3 Tryz.underlying50 rfl) hS.out ?_
 simp only [Act.put, uA, uB, uC]
 refine rn_one (i := 11) (dst := none) rfl (by kernel_rfl) rfl rfl (fun K hK => ?_)
 refine ow_store 48 _ _ (.slice A9 (m + 1) c9) (.slice S m cS) rfl ⟨w.heap.size, 3, none⟩ info48s rfl rfl rfl rfl (X4.out.bx.cell 3) (X4.out.bx.free 3) ?_
 refine hK _ _ (fun h => (by cases h)) ?_
 clear hK K
 simp only [Act.put, uA, uB, uC]
 have k5 : Kp (· = w.heap.size) w4 (w4.setCell ⟨w.heap.size, 3, none⟩ (.slice A9 (m + 1) c9)) := (Kp.refl _ w4).setCell _ _ (.inr rfl)
 have o5 : Hd (Or (w.heap.size + 2) 9 1 (w4.setCell ⟨w.heap.size, 3, none⟩ (.slice A9 (m + 1) c9)) (.slice A9 (m + 1) c9) (m + 1) (wcl ss ++ [.string ⟨bb.toArray⟩])) := ⟨ho4.out.keepS k5 (fun k hk e => by have := ho4.out.new k hk; omega)⟩
 have X5 : Hd (Rx w.heap.size w (w4.setCell ⟨w.heap.size, 3, none⟩ (.slice A9 (m + 1) c9)) [.int .i64 pages, .int .i64 cache, .slice F n cF, .slice A9 (m + 1) c9, .int .i64 cap, .slice none 0 0] Z6) := ⟨X4.out.put 3 (.slice A9 (m + 1) c9)⟩
 clear X4 ho4 k5
 refine rn_done (by kernel_rfl) ?_ _
 generalize w4.setCell ⟨w.heap.size, 3, none⟩ (.slice A9 (m + 1) c9) = w5 at *
 go_wp2_with fail
 have X5' := Hd.mk (X5.out.keep (Kp.refl _ w5).drew)
 have o5' := Hd.mk (o5.out.keep (Kp.refl _ w5).drew)
 have hS : Hd ((fun W : World => Blk W w.heap.size [.int .i64 pages, .int .i64 cache, .slice F n cF, .slice A9 (m + 1) c9, .int .i64 cap, .slice none 0 0] 53) w5.drew) := ⟨X5'.out.bx⟩
 have el : Hd ((ss ++ [bb]).length = m + 1) := ⟨by simp [hm.out]⟩
 clear X5 o5
 refine rn_begin (fun W : World => Blk W w.heap.size [.int .i64 pages, .int .i64 cache, .slice F n cF, .slice A9 (m + 1) c9, .int .i64 cap, .slice none 0 0] 53) (List.range 9) (by kernel_rfl) ?_
 rcases hcc.out with ⟨hbe, rfl⟩ | ⟨hbe, rfl⟩
 ·replace hbe := Hd.mk hbe
  refine rnA 0 136 (.agg ([.int .i64 pages, .int .i64 cache, .slice F n cF, .slice A9 (m + 1) c9, .int .i64 cap, .slice none 0 0] : List Value).toArray) (fun W hW => ex_load_mid W 53 _ rfl w.heap.size 0 rfl _ (hW.range 0 6) Tryz.underlying53 rfl (by kernel_rfl)) hS.out ?_
  refine rnA 1 137 (.int .i64 (0)) (rnM rfl rfl) hS.out ?_
  refine rnA 2 138 (.bool true) (fun W hW => ex_eql W 26 _ _ _ rfl .i64 0 0 rfl rfl true (by decide)) hS.out ?_
  simp only [Act.put, uA, uB, uC]
  refine rnA 3 139 (.bool true) (rnM rfl rfl) hS.out ?_
  refine rnA 4 140 (.agg ([.int .i64 pages, .int .i64 cache, .slice F n cF, .slice A9 (m + 1) c9, .int .i64 cap, .slice none 0 0] : List Value).toArray) (fun W hW => ex_load_mid W 53 _ rfl w.heap.size 0 rfl _ (hW.range 0 6) Tryz.underlying53 rfl (by kernel_rfl)) hS.out ?_
  simp only [Act.put, uA, uB, uC]
  refine rn_one (i := 5) (dst := some 141) rfl (by kernel_rfl) rfl rfl (fun K hK => ?_)
  refine ow_call 70 _ _ rfl Tryz.func70 (by kernel_rfl) (by kernel_rfl) [.agg ([.int .i64 pages, .int .i64 cache, .slice F n cF, .slice A9 (m + 1) c9, .int .i64 cap, .slice none 0 0] : List Value).toArray] rfl (hh.out _ A9 c9 bb hbe.out (hfold.out _ _ bb X5'.out.kp o5'.out)) ?_
  rintro e w6 ⟨⟨bq, rfl, hbq⟩, k6⟩
  have X6 := Hd.mk (X5'.out.keep k6)
  have o6 := Hd.mk (o5'.out.keep k6)
  have hS6 : Hd ((fun W : World => Blk W w.heap.size [.int .i64 pages, .int .i64 cache, .slice F n cF, .slice A9 (m + 1) c9, .int .i64 cap, .slice none 0 0] 53) w6) := ⟨X6.out.bx⟩
  refine ⟨_, rfl, hK _ _ (fun _ => hS6.out) ?_⟩
  clear hK K hS X5' k6 o5'
  have hS := hS6
  clear hS6
  replace hbq := Hd.mk hbq
  simp only [Act.put, uA, uB, uC]
  refine rnA 6 142 (.bool bq) (fun W hW => ex_pick W _ _ _ rfl true _ rfl rfl) hS.out ?_
  simp only [Act.put, uA, uB, uC]
  refine rn_one (i := 7) (dst := none) rfl (by kernel_rfl) rfl rfl (fun K hK => ?_); refine ow_store_mid 53 _ _ rfl (w.heap.size + 1) 0 53 Z6 [.int .i64 pages, .int .i64 cache, .slice F n cF, .slice A9 (m + 1) c9, .int .i64 cap, .slice none 0 0] rfl rfl X6.out.ou (Nat.le_refl 6) (by kernel_rfl) six_one ?_; intro wz hbz hkz _; have hSz : Hd ((fun W : World => Blk W w.heap.size [.int .i64 pages, .int .i64 cache, .slice F n cF, .slice A9 (m + 1) c9, .int .i64 cap, .slice none 0 0] 53) wz) := ⟨hkz.keeps hS.out (by show ¬ w.heap.size = w.heap.size + 1; omega)⟩; refine hK _ _ (fun _ => hSz.out) ?_; clear hK K hS; simp only [Act.put, uA, uB, uC]; obtain ⟨g1, g2⟩ := X6.out.give rfl hbz hkz rfl; replace g1 := Hd.mk g1; replace g2 := Hd.mk g2; have kz := Hd.mk hkz; clear hbz hkz; refine rn_one (i := 8) (dst := some 7) rfl (by kernel_rfl) rfl rfl (fun K hK => ?_); refine ow_run (ex_assign _ _ (.bool bq) rfl rfl) ?_; refine hK _ _ (fun _ => hSz.out) ?_; clear hK K; simp only [Act.put, uA, uB, uC]; refine rn_done (by kernel_rfl) ?_ _; go_wp2_with fail; refine bodyPost_ret (results_2s rfl _ _ (w.heap.size + 1) [.int .i64 pages, .int .i64 cache, .slice F n cF, .slice A9 (m + 1) c9, .int .i64 cap, .slice none 0 0] _ rfl rfl g1.out rfl) rfl ?_
  refine ⟨⟨⟨pages, cache, fl, ss ++ [bb], cap, []⟩, F, A9, none, cF, c9, 0, bq, by simp [rowS, hm.out, hn.out], fun h => ?_, fun h ⟨s1, h2⟩ => ?_⟩, g2.out⟩
  ·refine ⟨hy.out bb hbe.out (hbq.out.1 h), cs, ?_⟩
   have r := hfold.out _ _ bb g2.out (o6.out.keepS kz.out (fun k hk e => by have := o6.out.new k hk; omega))
   rw [← el.out, ← hn.out] at r
   exact r
  ·obtain ⟨b2, e2, e3⟩ := hno.out s1 h2
   rw [hbe.out] at e2
   cases e2
   have := hbq.out.2 e3
   rw [h] at this
   cases this
 ·replace hbe := Hd.mk hbe
  refine rnA 0 136 (.agg ([.int .i64 pages, .int .i64 cache, .slice F n cF, .slice A9 (m + 1) c9, .int .i64 cap, .slice none 0 0] : List Value).toArray) (fun W hW => ex_load_mid W 53 _ rfl w.heap.size 0 rfl _ (hW.range 0 6) Tryz.underlying53 rfl (by kernel_rfl)) hS.out ?_
  refine rnA 1 137 (.int .i64 (270)) (rnM rfl rfl) hS.out ?_
  refine rnA 2 138 (.bool false) (fun W hW => ex_eql W 26 _ _ _ rfl .i64 270 0 rfl rfl false (by decide)) hS.out ?_
  simp only [Act.put, uA, uB, uC]
  refine rnA 3 139 (.bool false) (rnM rfl rfl) hS.out ?_
  refine rnP 4 140 hS.out ?_
  refine rnP 5 141 hS.out ?_
  simp only [Act.put, uA, uB, uC]
  refine rnA 6 142 (.bool false) (fun W hW => ex_pick W _ _ _ rfl false _ rfl rfl) hS.out ?_
  simp only [Act.put, uA, uB, uC]
  refine rn_one (i := 7) (dst := none) rfl (by kernel_rfl) rfl rfl (fun K hK => ?_); refine ow_store_mid 53 _ _ rfl (w.heap.size + 1) 0 53 Z6 [.int .i64 pages, .int .i64 cache, .slice F n cF, .slice A9 (m + 1) c9, .int .i64 cap, .slice none 0 0] rfl rfl X5'.out.ou (Nat.le_refl 6) (by kernel_rfl) six_one ?_; intro wz hbz hkz _; have hSz : Hd ((fun W : World => Blk W w.heap.size [.int .i64 pages, .int .i64 cache, .slice F n cF, .slice A9 (m + 1) c9, .int .i64 cap, .slice none 0 0] 53) wz) := ⟨hkz.keeps hS.out (by show ¬ w.heap.size = w.heap.size + 1; omega)⟩; refine hK _ _ (fun _ => hSz.out) ?_; clear hK K hS; simp only [Act.put, uA, uB, uC]; obtain ⟨g1, g2⟩ := X5'.out.give rfl hbz hkz rfl; replace g1 := Hd.mk g1; replace g2 := Hd.mk g2; have kz := Hd.mk hkz; clear hbz hkz; refine rn_one (i := 8) (dst := some 7) rfl (by kernel_rfl) rfl rfl (fun K hK => ?_); refine ow_run (ex_assign _ _ (.bool false) rfl rfl) ?_; refine hK _ _ (fun _ => hSz.out) ?_; clear hK K; simp only [Act.put, uA, uB, uC]; refine rn_done (by kernel_rfl) ?_ _; go_wp2_with fail; refine bodyPost_ret (results_2s rfl _ _ (w.heap.size + 1) [.int .i64 pages, .int .i64 cache, .slice F n cF, .slice A9 (m + 1) c9, .int .i64 cap, .slice none 0 0] _ rfl rfl g1.out rfl) rfl ?_
  refine ⟨⟨⟨pages, cache, fl, ss ++ [bb], cap, []⟩, F, A9, none, cF, c9, 0, false, by simp [rowS, hm.out, hn.out], fun h => (by cases h), fun _ ⟨s1, h2⟩ => ?_⟩, g2.out⟩
  obtain ⟨b2, e2, e3⟩ := hno.out s1 h2
  rw [hbe.out] at e2
  cases e2
end Go.Proofs.YtkcechpaeilaeaaGreatDoor
