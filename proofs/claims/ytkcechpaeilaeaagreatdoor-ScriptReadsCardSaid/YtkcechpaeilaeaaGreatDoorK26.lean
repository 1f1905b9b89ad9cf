/- Joined out of: R18. -/
import Derived.Test.YtkcechpaeilaeaaGreatDoorK24
set_option linter.unusedVariables false
set_option linter.unusedSimpArgs false
namespace Go.Proofs.YtkcechpaeilaeaaGreatDoor
open Go.RowKit
set_option maxRecDepth 100000
theorem rn_strong {P : Program} {md : Region.Mode} {ops : Array Oper} {Q : Exit → Act → World → Prop} {S S' : World → Prop} {nd : List Nat} (hS : ∀ w, S' w → S w) : ∀ (fuel : Nat) (listed : Array Bool) (a : Act) (w : World), wpAnyN P md ops Q S' nd fuel listed a w → wpAnyN P md ops Q S nd fuel listed a w
 | 0, _, _, _, h => h
 | fuel + 1, _, _, _, h => ⟨h.1, fun i hi => wpOp_mono (fun a' w' h' => ⟨fun hc => hS _ (h'.1 hc), rn_strong hS fuel _ a' w' h'.2⟩) (h.2 i hi)⟩
theorem tlines_fold (pages cache cap : Int) (fl : List Fo) (x : Fo) : (tlines ⟨pages, cache, fl ++ [x], [], cap, []⟩).length = fl.length + 4 ∧ (wcl (tlines ⟨pages, cache, fl ++ [x], [], cap, []⟩))[fl.length + 3]? = some (.string ⟨(ftl x).toArray⟩) := by
 have e : tlines ⟨pages, cache, fl ++ [x], [], cap, []⟩ = (tl3 pages cache cap ++ fl.map ftl) ++ [ftl x] := by simp [tlines]
 have hl : (tl3 pages cache cap ++ fl.map ftl).length = fl.length + 3 := by simp [tl3]
 rw [e]
 refine ⟨by rw [List.length_append, hl]; rfl, ?_⟩
 rw [wcl_app, List.getElem?_append_right (by rw [wcl, List.length_map, hl]; exact Nat.le_refl _), wcl, List.length_map, hl, Nat.sub_self]
 rfl
set_option maxHeartbeats 16000000 in
theorem read_fold {b : Nat} {w : World} {s : Sc} {F S X : Option Addr} {cF cS cA : Nat} {cs : List Value} {k : Nat} (hk : 3 ≤ k) (hs : scOk s) (hR : Rz b w s (.slice F s.fl.length cF) (.slice S s.ss.length cS) (.slice X s.ac.length cA) cs) (hb : b ≤ w.heap.size) (h1 : s.ss = []) (h2 : s.ac = []) (l : List UInt8) (hl : l.length < 70000) (hw : wd l = [102, 111, 108, 100]) :
  Calls Tryz.prog 77 #[.agg #[.int .i64 s.pages, .int .i64 s.cache, .slice F s.fl.length cF, .slice S s.ss.length cS, .int .i64 s.cap, .slice X s.ac.length cA], .int .i64 (k : Int), .string ⟨l.toArray⟩] w fun e w' => ReR b k s l w w' e := by
 obtain ⟨pages, cache, fl, ss, cap, ac⟩ := s
 simp only at h1 h2
 subst h1 h2
 have z1 := hR.zs rfl
 have z2 := hR.za rfl
 simp only [List.length_nil] at z1 z2 hR ⊢
 injection z1 with z1 _ z1'
 injection z2 with z2 _ z2'
 subst z1 z1' z2 z2'
 have hn8 : fl.length ≤ 8 := hs.bnd.nf
 obtain ⟨RS, hRS⟩ : ∃ x, Hd (rs l = x) := ⟨_, ⟨rfl⟩⟩
 obtain ⟨x1, hx1⟩ : ∃ x, Hd (dig (wd RS) = x) := ⟨_, ⟨rfl⟩⟩
 obtain ⟨x2, hx2⟩ : ∃ x, Hd (dig (wd (rs RS)) = x) := ⟨_, ⟨rfl⟩⟩
 obtain ⟨x3, hx3⟩ : ∃ x, Hd (dig (wd (rs (rs RS))) = x) := ⟨_, ⟨rfl⟩⟩
 have hfo : fo3 (rs l) = ⟨x1, x2, x3⟩ := by rw [hRS.out, fo3, hx1.out, hx2.out, hx3.out]
 have hc := Hd.mk (fun u => rcut_to hw hRS.out hl u)
 have ht : Hd (∀ u, Calls Tryz.prog 100 #[.string ⟨RS.toArray⟩] u fun e w' => (∃ (d0 d1 d2 : Int) (q : Bool), e = .returned (.tuple #[.agg #[.int .i64 d0, .int .i64 d1, .int .i64 d2], .bool q]) ∧ (q = true → (d0 = x1 ∧ d1 = x2 ∧ d2 = x3) ∧ (0 ≤ x1 ∧ x1 < 1000000000) ∧ (0 ≤ x2 ∧ x2 < 1000000000) ∧ (0 ≤ x3 ∧ x3 < 1000000000)) ∧ (q = false → ¬ three3 RS)) ∧ KZ u w') := ⟨fun u => by
  refine (three_at RS (by rw [← hRS.out]; exact Nat.lt_of_le_of_lt (rs_length _) hl) u).mono ?_
  rintro e w' ⟨⟨d0, d1, d2, q, rfl, hq1, hq2⟩, hkp⟩
  refine ⟨⟨d0, d1, d2, q, rfl, fun hq => ?_, fun hq h3 => ?_⟩, hkp⟩
  ·obtain ⟨p1, p2, p3, _⟩ := hq1.1 hq
   have i1 := (dig_inv p1).2
   have i2 := (dig_inv p2).2
   have i3 := (dig_inv p3).2
   have e := hq2 hq
   rw [hx1.out] at p1 i1 e
   rw [hx2.out] at p2 i2 e
   rw [hx3.out] at p3 i3 e
   exact ⟨e, ⟨p1, i1⟩, ⟨p2, i2⟩, p3, i3⟩
  ·have := hq1.2 h3
   rw [hq] at this
   cases this⟩
 have hy : Hd (headOk ⟨pages, cache, fl ++ [⟨x1, x2, x3⟩], [], cap, []⟩ → ftl ⟨x1, x2, x3⟩ = l → Step k ⟨pages, cache, fl, [], cap, []⟩ l ⟨pages, cache, fl ++ [⟨x1, x2, x3⟩], [], cap, []⟩) := ⟨fun g1 g2 => step_fold_y hk hs rfl rfl ⟨x1, x2, x3⟩ g1 g2⟩
 have hno : Hd (∀ s1, Step k ⟨pages, cache, fl, [], cap, []⟩ l s1 → three3 RS ∧ headOk ⟨pages, cache, fl ++ [⟨x1, x2, x3⟩], [], cap, []⟩ ∧ ftl ⟨x1, x2, x3⟩ = l) := ⟨fun s1 g => by
  have := step_fold_n hk hw g
  rw [hfo, hRS.out] at this
  exact this⟩
 have hh : Hd (∀ (W : World) (A9 : Option Addr) (c9 : Nat), ((0 ≤ x1 ∧ x1 < 1000000000) ∧ (0 ≤ x2 ∧ x2 < 1000000000)) → Rz b W ⟨pages, cache, fl ++ [⟨x1, x2, x3⟩], [], cap, []⟩ (.slice A9 (fl.length + 1) c9) (.slice none 0 0) (.slice none 0 0) cs →
   Calls Tryz.prog 70 #[.agg #[.int .i64 pages, .int .i64 cache, .slice A9 (fl.length + 1) c9, .slice none 0 0, .int .i64 cap, .slice none 0 0]] W fun e w' => BoR (headOk ⟨pages, cache, fl ++ [⟨x1, x2, x3⟩], [], cap, []⟩) W w' e) := ⟨fun W A9 c9 hx hr => by
  have e : (fl ++ [(⟨x1, x2, x3⟩ : Fo)]).length = fl.length + 1 := by simp
  have hsm := small_fold hs (x := ⟨x1, x2, x3⟩) hx.1 hx.2
  rw [← e] at hr ⊢
  exact rhead_at (w := W) ⟨pages, cache, fl ++ [⟨x1, x2, x3⟩], [], cap, []⟩ hsm (AS := none) (AA := none) (cS := 0) (cA := 0) (Rz.scr2 (s := ⟨pages, cache, fl ++ [⟨x1, x2, x3⟩], [], cap, []⟩) hr)⟩
 have htop : Hd (∀ (W : World) (A9 : Option Addr) (c9 : Nat), headOk ⟨pages, cache, fl ++ [⟨x1, x2, x3⟩], [], cap, []⟩ → Rz b W ⟨pages, cache, fl ++ [⟨x1, x2, x3⟩], [], cap, []⟩ (.slice A9 (fl.length + 1) c9) (.slice none 0 0) (.slice none 0 0) cs →
   Calls Tryz.prog 66 #[.agg #[.int .i64 pages, .int .i64 cache, .slice A9 (fl.length + 1) c9, .slice none 0 0, .int .i64 cap, .slice none 0 0]] W fun e w' => (∃ (g c : Nat), e = .returned (.slice (some ⟨g, 0, none⟩) (fl.length + 4) c) ∧ w'.rangeAt g 0 (wcl (tlines ⟨pages, cache, fl ++ [⟨x1, x2, x3⟩], [], cap, []⟩)) ∧ W.heap.size ≤ g) ∧ KZ W w') := ⟨fun W A9 c9 hx hr => by
  have e : (fl ++ [(⟨x1, x2, x3⟩ : Fo)]).length = fl.length + 1 := by simp
  rw [← e] at hr ⊢
  have h1 := bnd_head hx
  have h2 : ScR W ⟨pages, cache, fl ++ [⟨x1, x2, x3⟩], [], cap, []⟩ A9 c9 none 0 none 0 := Rz.scr2 (s := ⟨pages, cache, fl ++ [⟨x1, x2, x3⟩], [], cap, []⟩) hr
  have h0 := rtop_at (w := W) ⟨pages, cache, fl ++ [⟨x1, x2, x3⟩], [], cap, []⟩ h1 h2
  simp only [List.length_nil] at h0
  refine h0.mono ?_
  rintro e w' ⟨⟨v, rfl, ho⟩, hkp⟩
  rw [(tlines_fold pages cache cap fl ⟨x1, x2, x3⟩).1] at ho
  obtain ⟨A, c, rfl, _⟩ := ho.slice
  obtain ⟨g, rfl, hr, hg, _⟩ := ho.at (by omega)
  exact ⟨⟨g, c, rfl, hr, hg⟩, hkp⟩⟩
 have hlast := Hd.mk (tlines_fold pages cache cap fl ⟨x1, x2, x3⟩).2
 have hO : Hd (Or 0 100 3 w (.slice F fl.length cF) fl.length (fcl fl)) := ⟨Or.mono hR.rf (Nat.zero_le b)⟩
 have hz : Hd (fl.length = 0 → (.slice F fl.length cF : Value) = .slice none 0 0) := ⟨hR.zf⟩
 have hfold : Hd (∀ (W : World) (V : Value), KZ w W → Or (w.heap.size + 2) 100 3 W V (fl.length + 1) (fcl fl ++ [.int .i32 x1, .int .i32 x2, .int .i64 x3]) → Rz b W ⟨pages, cache, fl ++ [⟨x1, x2, x3⟩], [], cap, []⟩ V (.slice none 0 0) (.slice none 0 0) cs) := ⟨fun W V hk ho => (hR.keep hk).fold (x := ⟨x1, x2, x3⟩) (ho.mono (by omega))⟩
 have hf1 := Hd.mk (fcl_one fl)
 obtain ⟨n, hn⟩ : ∃ n, fl.length = n := ⟨_, rfl⟩
 rw [hn] at hn8 hh htop hlast hO hz hfold ⊢
 obtain ⟨FT, hFT⟩ : ∃ x, Hd (ftl ⟨x1, x2, x3⟩ = x) := ⟨_, ⟨rfl⟩⟩
 rw [hFT.out] at hlast hy hno
 have qf : Hd ((([102, 111, 108, 100] : List UInt8) == [102, 111, 108, 100]) = true) := ⟨by decide⟩
 have q3 : Hd (decide ((k : Int) < 3) = false) := ⟨decide_eq_false (by omega)⟩
 replace hn := Hd.mk hn
 clear hs hR hb hw hl hfo hx1 hx2 hx3 hRS hk hFT
 go_enter Tryz.func77, Tryz.ntmps77
 go_wp2_with fail
 refine (hc.out _).mono ?_
 rintro e w1 ⟨⟨b0, rfl⟩, k1⟩
 have X1 := Hd.mk ((Rx.start w [.int .i64 pages, .int .i64 cache, .slice F n cF, .slice none 0 0, .int .i64 cap, .slice none 0 0]).keep k1)
 have c3 : w1.cell? ⟨w.heap.size, 3, none⟩ = some (.slice none 0 0) := X1.out.bx.cell 3
 have c5 : w1.cell? ⟨w.heap.size, 5, none⟩ = some (.slice none 0 0) := X1.out.bx.cell 5
 clear k1
 go_wp2_with (first | (simp only [Bool.false_eq_true, if_false]) | ((with_reducible refine wl_run rfl (ex_lss _ 3 3 (.tmp 24) (.const (.int .i64 3)) rfl .i64 (k : Int) 3 rfl rfl false q3.out) ?_); simp only [Act.put, uA, uB, uC]) | ((with_reducible refine wl_run rfl (ex_seql _ 9 9 (.tmp 55) (.const (.string ⟨#[102, 111, 108, 100]⟩)) rfl [102, 111, 108, 100] [102, 111, 108, 100] true qf.out rfl rfl) ?_); simp only [Act.put, uA, uB, uC]))
 refine (ht.out w1).mono ?_
 rintro e w2 ⟨⟨d0, d1, d2, q, rfl, hq1, hq0⟩, k2⟩
 have X2 := Hd.mk (X1.out.keep k2)
 clear c3 c5 k2 X1 ht hc
 cases q
 ·have X3 := Hd.mk (X2.out.keep ((Kp.refl _ w2).alloc (.cells #[.int .i64 d0, .int .i64 d1, .int .i64 d2] 126)))
  have hr := Hd.mk (X3.out.bx.range 0 6)
  have hno3 := Hd.mk (hq0 rfl)
  clear hq1 hq0 X2
  go_wp2_with (first | (simp only [Bool.false_eq_true, if_false]) | ((refine wl_load_mid rfl 53 (.tmp 3) rfl w.heap.size 0 rfl [.int .i64 pages, .int .i64 cache, .slice F n cF, .slice none 0 0, .int .i64 cap, .slice none 0 0] hr.out Tryz.underlying53 rfl (by kernel_rfl) ?_); simp only [Act.put, uA, uB, uC]) | (refine wl_store_mid rfl 53 (.tmp 6) (.tmp 77) rfl (w.heap.size + 1) 0 53 Z6 [.int .i64 pages, .int .i64 cache, .slice F n cF, .slice none 0 0, .int .i64 cap, .slice none 0 0] rfl rfl X3.out.ou (Nat.le_refl 6) (by kernel_rfl) six_one ?_; intro w3 hb hk hs; replace hb := Hd.mk hb; replace hk := Hd.mk hk; clear hs))
  obtain ⟨g1, g2⟩ := X3.out.give rfl hb.out hk.out rfl
  refine bodyPost_ret (results_2s rfl _ _ (w.heap.size + 1) [.int .i64 pages, .int .i64 cache, .slice F n cF, .slice none 0 0, .int .i64 cap, .slice none 0 0] _ rfl rfl g1 rfl) rfl ?_
  exact ⟨⟨⟨pages, cache, List.replicate n ⟨0, 0, 0⟩, [], cap, []⟩, F, none, none, cF, 0, 0, false, by simp [rowS], fun h => (by cases h), fun _ ⟨s1, h2⟩ => hno3.out (hno.out s1 h2).1⟩, g2⟩
 obtain ⟨⟨e1, e2, e3⟩, p1, p2, p3⟩ := hq1 rfl
 subst d0 d1 d2
 clear hq1 hq0
 have hh2 := Hd.mk (fun W A9 c9 => hh.out W A9 c9 ⟨p1, p2⟩)
 have w1' : Hd (IntKind.i32.wrap x1 = x1) := ⟨w32 (by omega)⟩
 have w2' : Hd (IntKind.i32.wrap x2 = x2) := ⟨w32 (by omega)⟩
 clear hh p1 p2 p3
 have X3 : Hd (Rx w.heap.size w (w2.alloc (.cells #[.int .i64 x1, .int .i64 x2, .int .i64 x3] 126)).drew [.int .i64 pages, .int .i64 cache, .slice F n cF, .slice none 0 0, .int .i64 cap, .slice none 0 0] Z6) := ⟨X2.out.keep (((Kp.refl _ w2).alloc (.cells #[.int .i64 x1, .int .i64 x2, .int .i64 x3] 126)).andThen (Kp.refl (fun _ => False) (w2.alloc (.cells #[.int .i64 x1, .int .i64 x2, .int .i64 x3] 126))).drew (fun _ _ h => h))⟩
 have hnew : Hd ((w2.alloc (.cells #[.int .i64 x1, .int .i64 x2, .int .i64 x3] 126)).rangeAt w2.heap.size 0 [.int .i64 x1, .int .i64 x2, .int .i64 x3]) := ⟨row_new3 _ _ _ _ _⟩
 clear X2
 go_wp2_with (first | (simp only [Bool.false_eq_true, if_false]))
 have hS : Hd ((fun W : World => W.cell? ⟨w.heap.size, 2, none⟩ = some (.slice F n cF) ∧ W.cell? ⟨w2.heap.size, 0, none⟩ = some (.int .i64 x1) ∧ W.cell? ⟨w2.heap.size, 1, none⟩ = some (.int .i64 x2) ∧ W.cell? ⟨w2.heap.size, 2, none⟩ = some (.int .i64 x3)) (w2.alloc (.cells #[.int .i64 x1, .int .i64 x2, .int .i64 x3] 126)).drew) := ⟨⟨X3.out.bx.cell 2, (Kp.refl (fun _ => False) (w2.alloc (.cells #[.int .i64 x1, .int .i64 x2, .int .i64 x3] 126))).drew.see (hnew.out 0 _ rfl) id, (Kp.refl (fun _ => False) (w2.alloc (.cells #[.int .i64 x1, .int .i64 x2, .int .i64 x3] 126))).drew.see (hnew.out 1 _ rfl) id, (Kp.refl (fun _ => False) (w2.alloc (.cells #[.int .i64 x1, .int .i64 x2, .int .i64 x3] 126))).drew.see (hnew.out 2 _ rfl) id⟩⟩
 refine rn_begin (fun W : World => W.cell? ⟨w.heap.size, 2, none⟩ = some (.slice F n cF) ∧ W.cell? ⟨w2.heap.size, 0, none⟩ = some (.int .i64 x1) ∧ W.cell? ⟨w2.heap.size, 1, none⟩ = some (.int .i64 x2) ∧ W.cell? ⟨w2.heap.size, 2, none⟩ = some (.int .i64 x3)) (List.range 18) (by kernel_rfl) ?_
 refine rnT [2, 3, 4, 15, 18] 1 79 (.pointer (some ⟨w.heap.size, 2, none⟩)) (erF 53 2 _ rfl w.heap.size 0 2 2 2 Tryz.underlying53 rfl) hS.out ?_
 refine rnT [3, 4, 15, 18] 2 80 (.pointer (some ⟨w.heap.size, 2, none⟩)) (erF 50 0 _ rfl w.heap.size 2 0 0 2 Tryz.underlying50 rfl) hS.out ?_
 refine rnT [4, 15, 18] 3 81 (.slice F n cF) (fun W hW => ex_load W 47 _ _ rfl ⟨w.heap.size, 2, none⟩ U47 rfl rfl hW.1) hS.out ?_
 simp only [Act.put, uA, uB, uC]
 refine rnT [6, 7, 13, 14, 15, 18] 5 83 (.pointer (some ⟨w2.heap.size, 0, none⟩)) (fun W hW => er_indexArr W 126 3 _ _ rfl 1 0 3 Tryz.underlying126 (by kernel_rfl) w2.heap.size 0 0 (by first | rfl | omega) rfl .i64 rfl (by omega)) hS.out ?_
 refine rnT [7, 13, 14, 15, 18] 6 84 (.int .i64 (x1)) (fun W hW => ex_load W 3 _ _ rfl ⟨w2.heap.size, 0, none⟩ U3 rfl rfl (hW.2.1)) hS.out ?_
 refine rnT [13, 14, 15, 18] 7 85 (.int .i32 x1) (fun W hW => ex_convz W 3 21 _ rfl (by kernel_rfl) .i32 U21 .i64 x1 x1 rfl w1'.out) hS.out ?_
 simp only [Act.put, uA, uB, uC]
 refine rnT [9, 10, 13, 14, 15, 18] 8 86 (.pointer (some ⟨w2.heap.size, 1, none⟩)) (fun W hW => er_indexArr W 126 3 _ _ rfl 1 1 3 Tryz.underlying126 (by kernel_rfl) w2.heap.size 0 1 (by first | rfl | omega) rfl .i64 rfl (by omega)) hS.out ?_
 refine rnT [10, 13, 14, 15, 18] 9 87 (.int .i64 (x2)) (fun W hW => ex_load W 3 _ _ rfl ⟨w2.heap.size, 1, none⟩ U3 rfl rfl (hW.2.2.1)) hS.out ?_
 refine rnT [13, 14, 15, 18] 10 88 (.int .i32 x2) (fun W hW => ex_convz W 3 21 _ rfl (by kernel_rfl) .i32 U21 .i64 x2 x2 rfl w2'.out) hS.out ?_
 simp only [Act.put, uA, uB, uC]
 refine rnT [12, 13, 14, 15, 18] 11 89 (.pointer (some ⟨w2.heap.size, 2, none⟩)) (fun W hW => er_indexArr W 126 3 _ _ rfl 1 2 3 Tryz.underlying126 (by kernel_rfl) w2.heap.size 0 2 (by first | rfl | omega) rfl .i64 rfl (by omega)) hS.out ?_
 refine rnT [13, 14, 15, 18] 12 90 (.int .i64 (x3)) (fun W hW => ex_load W 3 _ _ rfl ⟨w2.heap.size, 2, none⟩ U3 rfl rfl (hW.2.2.2)) hS.out ?_
 refine rnT [14, 15, 18] 13 91 (.agg ([.int .i32 x1, .int .i32 x2, .int .i64 x3] : List Value).toArray) (fun W hW => ex_build W 100 [(0, .tmp 85), (1, .tmp 88), (2, .tmp 90)] rfl Tryz.underlying100 [.int .i32 0, .int .i32 0, .int .i64 0] (zero100 W) #[(0, 1), (1, 1), (2, 1)] (by kernel_rfl) [(0, .int .i32 x1), (1, .int .i32 x2), (2, .int .i64 x3)] rfl [.int .i32 x1, .int .i32 x2, .int .i64 x3] rfl) hS.out ?_
 simp only [Act.put, uA, uB, uC]
 have k3 : Hd (KZ w (w2.alloc (.cells #[.int .i64 x1, .int .i64 x2, .int .i64 x3] 126)).drew) := ⟨X3.out.kp⟩
 refine rn_grow (i := 0) (k := 4) (j := 14) (m := 15) 47 100 3 16 rfl rfl rfl rfl rfl rfl rfl rfl rfl rfl rfl rfl 81 91 rfl rfl rfl rfl (by kernel_rfl) (by kernel_rfl) (by kernel_rfl) (by kernel_rfl) (by kernel_rfl) (by kernel_rfl) (by kernel_rfl) (by kernel_rfl)
  U47 info100b rfl (by decide) (by decide) zero100 (.slice F n cF) n (fcl fl) rfl (hO.out.keep k3.out) hz.out hf1.out (by omega) [.int .i32 x1, .int .i32 x2, .int .i64 x3]
  (fun b' W he => ex_buildSlice1 W 47 100 _ rfl U47 [.int .i32 x1, .int .i32 x2, .int .i64 x3] (by rw [he]; rfl) [.int .i32 0, .int .i32 0, .int .i64 0] (zero100 _) info100s rfl (by simp) (by simp)) rfl (by simp [Value.oneCell'])
  (fun W hk => ⟨hk.see hS.out.1 id, hk.see hS.out.2.1 id, hk.see hS.out.2.2.1 id, hk.see hS.out.2.2.2 id⟩) ?_
 intro Vi Vk Vj V w4 ho k4
 have X4 := Hd.mk (X3.out.keep k4)
 have ho4 : Hd (Or (w.heap.size + 2) 100 3 w4 V (n + 1) (fcl fl ++ [.int .i32 x1, .int .i32 x2, .int .i64 x3])) := ⟨ho.mono X3.out.lt⟩
 have hS4 : Hd ((fun W : World => W.cell? ⟨w.heap.size, 2, none⟩ = some (.slice F n cF) ∧ W.cell? ⟨w2.heap.size, 0, none⟩ = some (.int .i64 x1) ∧ W.cell? ⟨w2.heap.size, 1, none⟩ = some (.int .i64 x2) ∧ W.cell? ⟨w2.heap.size, 2, none⟩ = some (.int .i64 x3)) w4) := ⟨⟨k4.see hS.out.1 id, k4.see hS.out.2.1 id, k4.see hS.out.2.2.1 id, k4.see hS.out.2.2.2 id⟩⟩
 clear ho k4 X3 hS hnew k3
 have hS := hS4
 clear hS4
 obtain ⟨A9, c9, e9, _⟩ := ho4.out.slice
 subst e9
 simp only [Act.put, uA, uB, uC]
 refine rnT [17, 18] 16 94 (.pointer (some ⟨w.heap.size, 2, none⟩)) (erF 53 2 _ rfl w.heap.size 0 2 2 2 Tryz.underlying53 rfl) hS.out ?_
 refine rnT [18] 17 95 (.pointer (some ⟨w.heap.size, 2, none⟩)) (erF 50 0 _ rfl w.heap.size 2 0 0 2 Tryz.underlying50 rfl) hS.out ?_
 simp only [Act.put, uA, uB, uC]
 refine rn_one (i := 18) (dst := none) rfl (by kernel_rfl) rfl rfl (fun K hK => ?_)
 refine ow_store 47 _ _ (.slice A9 (n + 1) c9) (.slice F n cF) rfl ⟨w.heap.size, 2, none⟩ info47s rfl rfl rfl rfl (X4.out.bx.cell 2) (X4.out.bx.free 2) ?_
 refine hK _ _ (fun h => (by cases h)) ?_
 clear hK K
 simp only [Act.put, uA, uB, uC]
 have k5 : Kp (· = w.heap.size) w4 (w4.setCell ⟨w.heap.size, 2, none⟩ (.slice A9 (n + 1) c9)) := (Kp.refl _ w4).setCell _ _ (.inr rfl)
 have o5 : Hd (Or (w.heap.size + 2) 100 3 (w4.setCell ⟨w.heap.size, 2, none⟩ (.slice A9 (n + 1) c9)) (.slice A9 (n + 1) c9) (n + 1) (fcl fl ++ [.int .i32 x1, .int .i32 x2, .int .i64 x3])) := ⟨ho4.out.keepS k5 (fun k hk e => by have := ho4.out.new k hk; omega)⟩
 have X5 : Hd (Rx w.heap.size w (w4.setCell ⟨w.heap.size, 2, none⟩ (.slice A9 (n + 1) c9)) [.int .i64 pages, .int .i64 cache, .slice A9 (n + 1) c9, .slice none 0 0, .int .i64 cap, .slice none 0 0] Z6) := ⟨X4.out.put 2 (.slice A9 (n + 1) c9)⟩
 clear X4 ho4 k5
 refine rn_done (by kernel_rfl) ?_ _
 generalize w4.setCell ⟨w.heap.size, 2, none⟩ (.slice A9 (n + 1) c9) = w5 at *
 go_wp2_with fail
 have X5' := Hd.mk (X5.out.keep (Kp.refl _ w5).drew)
 have o5' := Hd.mk (o5.out.keep (Kp.refl _ w5).drew)
 have hS : Hd ((fun W : World => Blk W w.heap.size [.int .i64 pages, .int .i64 cache, .slice A9 (n + 1) c9, .slice none 0 0, .int .i64 cap, .slice none 0 0] 53) w5.drew) := ⟨X5'.out.bx⟩
 refine rn_begin (fun W : World => Blk W w.heap.size [.int .i64 pages, .int .i64 cache, .slice A9 (n + 1) c9, .slice none 0 0, .int .i64 cap, .slice none 0 0] 53) (List.range 18) (by kernel_rfl) ?_
 refine rnA 0 96 (.agg ([.int .i64 pages, .int .i64 cache, .slice A9 (n + 1) c9, .slice none 0 0, .int .i64 cap, .slice none 0 0] : List Value).toArray) (fun W hW => ex_load_mid W 53 _ rfl w.heap.size 0 rfl _ (hW.range 0 6) Tryz.underlying53 rfl (by kernel_rfl)) hS.out ?_
 refine rnA 1 97 (.agg ([.int .i64 pages, .int .i64 cache, .slice A9 (n + 1) c9, .slice none 0 0, .int .i64 cap, .slice none 0 0] : List Value).toArray) (fun W hW => ex_load_mid W 53 _ rfl w.heap.size 0 rfl _ (hW.range 0 6) Tryz.underlying53 rfl (by kernel_rfl)) hS.out ?_
 simp only [Act.put, uA, uB, uC]
 refine rn_one (i := 2) (dst := some 98) rfl (by kernel_rfl) rfl rfl (fun K hK => ?_)
 refine ow_call 70 _ _ rfl Tryz.func70 (by kernel_rfl) (by kernel_rfl) [.agg ([.int .i64 pages, .int .i64 cache, .slice A9 (n + 1) c9, .slice none 0 0, .int .i64 cap, .slice none 0 0] : List Value).toArray] rfl (hh2.out _ A9 c9 (hfold.out _ _ X5'.out.kp o5'.out)) ?_
 rintro e w6 ⟨⟨bq, rfl, hbq⟩, k6⟩
 have X6 := Hd.mk (X5'.out.keep k6)
 have o6 := Hd.mk (o5'.out.keep k6)
 have hS6 : Hd ((fun W : World => Blk W w.heap.size [.int .i64 pages, .int .i64 cache, .slice A9 (n + 1) c9, .slice none 0 0, .int .i64 cap, .slice none 0 0] 53) w6) := ⟨X6.out.bx⟩
 refine ⟨_, rfl, hK _ _ (fun _ => hS6.out) ?_⟩
 clear hK K hS X5 X5' k6 o5 o5'
 have hS := hS6
 clear hS6
 replace hbq := Hd.mk hbq
 have el : Hd ((fl ++ [(⟨x1, x2, x3⟩ : Fo)]).length = n + 1) := ⟨by simp [hn.out]⟩
 simp only [Act.put, uA, uB, uC]
 cases bq
 ·skip
  refine rnA 3 99 (.bool false) (rnM rfl rfl) hS.out ?_
  refine rnP 4 100 hS.out ?_
  refine rnP 5 101 hS.out ?_
  simp only [Act.put, uA, uB, uC]
  refine rnP 6 102 hS.out ?_
  refine rnP 7 103 hS.out ?_
  refine rnP 8 104 hS.out ?_
  simp only [Act.put, uA, uB, uC]
  refine rnP 9 105 hS.out ?_
  refine rnP 10 106 hS.out ?_
  refine rnP 11 107 hS.out ?_
  simp only [Act.put, uA, uB, uC]
  refine rnP 12 108 hS.out ?_
  refine rnP 13 109 hS.out ?_
  refine rnP 14 110 hS.out ?_
  simp only [Act.put, uA, uB, uC]
  refine rnA 15 111 (.bool false) (fun W hW => ex_pick W _ _ _ rfl false _ rfl rfl) hS.out ?_
  simp only [Act.put, uA, uB, uC]
  refine rn_one (i := 16) (dst := none) rfl (by kernel_rfl) rfl rfl (fun K hK => ?_); refine ow_store_mid 53 _ _ rfl (w.heap.size + 1) 0 53 Z6 [.int .i64 pages, .int .i64 cache, .slice A9 (n + 1) c9, .slice none 0 0, .int .i64 cap, .slice none 0 0] rfl rfl X6.out.ou (Nat.le_refl 6) (by kernel_rfl) six_one ?_; intro wz hbz hkz _; have hSz : Hd ((fun W : World => Blk W w.heap.size [.int .i64 pages, .int .i64 cache, .slice A9 (n + 1) c9, .slice none 0 0, .int .i64 cap, .slice none 0 0] 53) wz) := ⟨hkz.keeps hS.out (by show ¬ w.heap.size = w.heap.size + 1; omega)⟩; refine hK _ _ (fun _ => hSz.out) ?_; clear hK K hS; simp only [Act.put, uA, uB, uC]; obtain ⟨g1, g2⟩ := X6.out.give rfl hbz hkz rfl; replace g1 := Hd.mk g1; replace g2 := Hd.mk g2; have kz := Hd.mk hkz; clear hbz hkz; refine rn_one (i := 17) (dst := some 7) rfl (by kernel_rfl) rfl rfl (fun K hK => ?_); refine ow_run (ex_assign _ _ (.bool false) rfl rfl) ?_; refine hK _ _ (fun _ => hSz.out) ?_; clear hK K; simp only [Act.put, uA, uB, uC]; refine rn_done (by kernel_rfl) ?_ _; go_wp2_with fail; refine bodyPost_ret (results_2s rfl _ _ (w.heap.size + 1) [.int .i64 pages, .int .i64 cache, .slice A9 (n + 1) c9, .slice none 0 0, .int .i64 cap, .slice none 0 0] _ rfl rfl g1.out rfl) rfl ?_
  refine ⟨⟨⟨pages, cache, fl ++ [⟨x1, x2, x3⟩], [], cap, []⟩, A9, none, none, c9, 0, 0, false, by simp [rowS, hn.out], fun h => (by cases h), fun _ ⟨s1, h2⟩ => ?_⟩, g2.out⟩
  have := hbq.out.2 (hno.out s1 h2).2.1
  cases this
 ·skip
  refine rnA 3 99 (.bool true) (rnM rfl rfl) hS.out ?_
  refine rnA 4 100 (.agg ([.int .i64 pages, .int .i64 cache, .slice A9 (n + 1) c9, .slice none 0 0, .int .i64 cap, .slice none 0 0] : List Value).toArray) (fun W hW => ex_load_mid W 53 _ rfl w.heap.size 0 rfl _ (hW.range 0 6) Tryz.underlying53 rfl (by kernel_rfl)) hS.out ?_
  refine rnA 6 102 (.pointer (some ⟨w.heap.size, 2, none⟩)) (erF 53 2 _ rfl w.heap.size 0 2 2 2 Tryz.underlying53 rfl) hS.out ?_
  simp only [Act.put, uA, uB, uC]
  refine rnA 7 103 (.pointer (some ⟨w.heap.size, 2, none⟩)) (erF 50 0 _ rfl w.heap.size 2 0 0 2 Tryz.underlying50 rfl) hS.out ?_
  refine rnA 8 104 (.slice A9 (n + 1) c9) (fun W hW => ex_load W 47 _ _ rfl ⟨w.heap.size, 2, none⟩ U47 rfl rfl (Blk.cell hW 2)) hS.out ?_
  refine rnA 9 105 (.int .i64 ((n + 1 : Nat) : Int)) (fun W hW => ex_len W 47 _ rfl U47 _ (n + 1) c9 rfl) hS.out ?_
  simp only [Act.put, uA, uB, uC]
  refine rnA 10 106 (.int .i64 ((n + 3 : Nat) : Int)) (fun W hW => er_add W 3 _ _ _ rfl 2 (n + 1) (n + 3) (by omega) rfl rfl (by omega)) hS.out ?_
  refine rnA 13 109 (.string ⟨(l).toArray⟩) (rnM rfl rfl) hS.out ?_
  simp only [Act.put, uA, uB, uC]
  refine rn_one (i := 5) (dst := some 101) rfl (by kernel_rfl) rfl rfl (fun K hK => ?_)
  refine ow_call 66 _ _ rfl Tryz.func66 (by kernel_rfl) (by kernel_rfl) [.agg ([.int .i64 pages, .int .i64 cache, .slice A9 (n + 1) c9, .slice none 0 0, .int .i64 cap, .slice none 0 0] : List Value).toArray] rfl (htop.out _ A9 c9 (hbq.out.1 (by first | rfl | trivial)) (hfold.out _ _ X6.out.kp o6.out)) ?_
  rintro e w7 ⟨⟨g, c7, rfl, hr7, hg6⟩, k7⟩
  have hg7 : Hd (¬ g = w.heap.size + 1) := ⟨fun e => by have := X6.out.lt; omega⟩
  have X7 := Hd.mk (X6.out.keep k7)
  have o7 := Hd.mk (o6.out.keep k7)
  have l7 := Hd.mk (hr7 (n + 3) _ hlast.out)
  have hS7 : Hd ((fun W : World => Blk W w.heap.size [.int .i64 pages, .int .i64 cache, .slice A9 (n + 1) c9, .slice none 0 0, .int .i64 cap, .slice none 0 0] 53 ∧ W.cell? ⟨g, n + 3, none⟩ = some (.string ⟨FT.toArray⟩)) w7) := ⟨X7.out.bx, by have := l7.out; rwa [Nat.zero_add] at this⟩
  have hS6 : Hd ((fun W : World => Blk W w.heap.size [.int .i64 pages, .int .i64 cache, .slice A9 (n + 1) c9, .slice none 0 0, .int .i64 cap, .slice none 0 0] 53) w7) := ⟨X7.out.bx⟩
  refine ⟨_, rfl, hK _ _ (fun _ => hS6.out) ?_⟩
  clear hK K hS X6 o6 k7 hr7 hS6 hg6 l7
  have hS := hS7
  clear hS7
  simp only [Act.put, uA, uB, uC]
  refine rn_strong (S' := (fun W : World => Blk W w.heap.size [.int .i64 pages, .int .i64 cache, .slice A9 (n + 1) c9, .slice none 0 0, .int .i64 cap, .slice none 0 0] 53 ∧ W.cell? ⟨g, n + 3, none⟩ = some (.string ⟨FT.toArray⟩))) (fun _ h => h.1) _ _ _ _ ?_
  refine rnA 11 107 (.pointer (some ⟨g, n + 3, none⟩)) (erI 48 9 _ _ rfl 1 (n + 3) U48 g 0 _ _ (n + 3)) hS.out ?_
  simp only [Act.put, uA, uB, uC]
  obtain ⟨q2, hq2⟩ : ∃ q, Hd ((FT == l) = q) := ⟨_, ⟨rfl⟩⟩
  refine rnA 12 108 (.string ⟨(FT).toArray⟩) (fun W hW => ex_load W 9 _ _ rfl ⟨g, n + 3, none⟩ U9 rfl rfl hW.2) hS.out ?_
  refine rnA 14 110 (.bool q2) (fun W hW => ex_seql W 9 9 _ _ rfl FT l q2 hq2.out rfl rfl) hS.out ?_
  refine rnA 15 111 (.bool q2) (fun W hW => ex_pick W _ _ _ rfl true _ rfl rfl) hS.out ?_
  simp only [Act.put, uA, uB, uC]
  refine rn_one (i := 16) (dst := none) rfl (by kernel_rfl) rfl rfl (fun K hK => ?_); refine ow_store_mid 53 _ _ rfl (w.heap.size + 1) 0 53 Z6 [.int .i64 pages, .int .i64 cache, .slice A9 (n + 1) c9, .slice none 0 0, .int .i64 cap, .slice none 0 0] rfl rfl X7.out.ou (Nat.le_refl 6) (by kernel_rfl) six_one ?_; intro wz hbz hkz _; have hSz : Hd ((fun W : World => Blk W w.heap.size [.int .i64 pages, .int .i64 cache, .slice A9 (n + 1) c9, .slice none 0 0, .int .i64 cap, .slice none 0 0] 53 ∧ W.cell? ⟨g, n + 3, none⟩ = some (.string ⟨FT.toArray⟩)) wz) := ⟨⟨hkz.keeps hS.out.1 (by show ¬ w.heap.size = w.heap.size + 1; omega), hkz.see hS.out.2 (fun e => hg7.out e)⟩⟩; refine hK _ _ (fun _ => hSz.out) ?_; clear hK K hS; simp only [Act.put, uA, uB, uC]; obtain ⟨g1, g2⟩ := X7.out.give rfl hbz hkz rfl; replace g1 := Hd.mk g1; replace g2 := Hd.mk g2; have kz := Hd.mk hkz; clear hbz hkz; refine rn_one (i := 17) (dst := some 7) rfl (by kernel_rfl) rfl rfl (fun K hK => ?_); refine ow_run (ex_assign _ _ (.bool q2) rfl rfl) ?_; refine hK _ _ (fun _ => hSz.out) ?_; clear hK K; simp only [Act.put, uA, uB, uC]; refine rn_done (by kernel_rfl) ?_ _; go_wp2_with fail; refine bodyPost_ret (results_2s rfl _ _ (w.heap.size + 1) [.int .i64 pages, .int .i64 cache, .slice A9 (n + 1) c9, .slice none 0 0, .int .i64 cap, .slice none 0 0] _ rfl rfl g1.out rfl) rfl ?_
  refine ⟨⟨⟨pages, cache, fl ++ [⟨x1, x2, x3⟩], [], cap, []⟩, A9, none, none, c9, 0, 0, q2, by simp [rowS, hn.out], fun h => ?_, fun h ⟨s1, h2⟩ => ?_⟩, g2.out⟩
  ·refine ⟨hy.out (hbq.out.1 (by first | rfl | trivial)) (by have := hq2.out; rw [h] at this; simpa using this), cs, ?_⟩
   have r := hfold.out _ _ g2.out (o7.out.keepS kz.out (fun k hk e => by have := o7.out.new k hk; omega))
   rw [← el.out] at r
   exact r
  ·have := (hno.out s1 h2).2.2
   rw [← hq2.out, this] at h
   simp at h
end Go.Proofs.YtkcechpaeilaeaaGreatDoor
