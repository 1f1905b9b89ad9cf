/- Joined out of: R6. -/
import Derived.Test.YtkcechpaeilaeaaGreatDoorK19
set_option linter.unusedVariables false
set_option linter.unusedSimpArgs false
namespace Go.Proofs.YtkcechpaeilaeaaGreatDoor
open Go.RowKit
set_option maxRecDepth 100000
theorem info48s : (Tryz.prog.info? 48).map (·.size) = some 1 := by kernel_rfl
theorem uqr_any {w w' : World} {r : Option (List UInt8)} {e : Ending} (h : UqR w w' r e) : ∃ (v : Value) (bb : List UInt8) (c : Int), e = .returned (.tuple #[v, .int .i64 c]) ∧ Bs w' v (ints bb) ∧ (∀ k, v.ownBlock = some k → w.heap.size ≤ k) ∧ ((r = some bb ∧ c = 0) ∨ (r = none ∧ c = 270)) ∧ KZ w w' := by
 obtain ⟨h1, h2⟩ := h
 cases r with
 | none =>
  simp only at h1
  exact ⟨_, [], 270, h1, ⟨none, 0, rfl, Nat.le_refl _, .inl rfl⟩, fun k hk => (by cases hk), .inr ⟨rfl, rfl⟩, h2⟩
 | some bb =>
  obtain ⟨v, he, ho⟩ := h1
  exact ⟨v, bb, 0, he, ho.bs, ho.new, .inl ⟨rfl, rfl⟩, h2⟩
theorem pre_stop {k : Nat} {s s1 : Sc} {l : List UInt8} (hw : wd l = [115, 116, 111, 112]) (hk : 3 ≤ k) (h : Pre k s l s1) : ∃ b, rs l = quote b false := by
 rcases h with ⟨h, _⟩ | ⟨_, _, _, x, hx, rfl, _⟩ | ⟨_, _, x, ⟨hs, hr⟩, _⟩ | ⟨_, a, ha, rfl, _⟩
 ·omega
 ·rw [(wd_fold _).1] at hw
  simp at hw
 ·exact ⟨x, hr⟩
 ·exact absurd hw (act_kw ha).2
set_option maxHeartbeats 8000000 in
theorem takes_stop {b R : Nat} {w : World} (hE : Ev w) {s : Sc} {VF VS VA : Value} {cs : List Value} {k : Nat} (hk : 3 ≤ k) {st : Int} (hst3 : 3 ≤ st) (hst4 : st ≤ 4) (h : Rd b R w s st VF VS VA cs) (hlow : s.ac = []) (hsl : s.ss.length ≤ 1000) (hb : b ≤ w.heap.size) (l : List UInt8) (hl : l.length < 70000) (hw : wd l = [115, 116, 111, 112]) :
  Calls Tryz.prog 75 #[.pointer (some ⟨R, 0, none⟩), .string ⟨l.toArray⟩] w fun e w' => TkR b R w w' k s l e := by
 have hcut := Hd.mk (cut_at (l := l) (by omega) hE)
 have huq := Hd.mk (fun u => unquote_at (w := u) (rs l) false (by have := rs_length l; omega))
 have hpn := Hd.mk (fun s1 (hp : Pre k s l s1) => pre_stop hw hk hp)
 have hpy : Hd (∀ x : List UInt8, rs l = quote x false → Pre k s l { s with ss := s.ss ++ [x] }) := ⟨fun x e => .inr (.inr (.inl ⟨hk, hlow, x, ⟨hw, e⟩, rfl⟩))⟩
 have hstg : Hd (∀ x : List UInt8, stg (k + 1) { s with ss := s.ss ++ [x] } = 4) := ⟨fun x => by
  have : ¬ k + 1 < 3 := by omega
  simp [stg, hlow, this]⟩
 obtain ⟨RS, hRS⟩ : ∃ x, rs l = x := ⟨_, rfl⟩
 rw [hw, hRS] at hcut
 rw [hRS] at huq hpn hpy
 have H := Hd.mk h
 have hb := Hd.mk hb
 have hsl := Hd.mk hsl
 have qf : Hd ((([115, 116, 111, 112] : List UInt8) == [102, 111, 108, 100]) = false) := ⟨by decide⟩
 have qs : Hd ((([115, 116, 111, 112] : List UInt8) == [115, 116, 111, 112]) = true) := ⟨by decide⟩
 have q3 : Hd (decide (st < 3) = false) := ⟨decide_eq_false (by omega)⟩
 have q4 : Hd (decide (st ≤ 4) = true) := ⟨decide_eq_true hst4⟩
 clear h hl hE hRS hw hk hlow hst3 hst4
 go_enter Tryz.func75, Tryz.ntmps75
 go_wp2_with fail
 refine hcut.out.mono ?_
 rintro e w1 ⟨rfl, k1⟩
 have K2 := Hd.mk (k1.th ((Kp.refl _ w1).alloc (.cells #[.string ⟨#[112, 97, 103, 101, 115]⟩, .string ⟨#[99, 97, 99, 104, 101]⟩, .string ⟨#[99, 97, 112]⟩] 123)))
 have H2 := Hd.mk (H.out.keep K2.out)
 have B2 := Hd.mk (Bo.of (R := R) K2.out hb.out)
 have c6 := H2.out.c6
 have hset : Hd (([.int .i64 s.pages, .int .i64 s.cache, VF, VS, .int .i64 s.cap, VA, .int .i64 st] : List Value).set 6 (.int .i64 4) = [.int .i64 s.pages, .int .i64 s.cache, VF, VS, .int .i64 s.cap, VA, .int .i64 4]) := ⟨rfl⟩
 clear k1 hcut H
 go_wp2_with (first | (simp only [Bool.false_eq_true, if_false]) | ((with_reducible refine wl_run rfl (ex_lss _ 3 3 (.tmp 25) (.const (.int .i64 3)) rfl .i64 st 3 rfl rfl false q3.out) ?_); simp only [Act.put, uA, uB, uC]) | ((with_reducible refine wl_run rfl (ex_seql _ 9 9 (.tmp 82) (.const (.string ⟨#[102, 111, 108, 100]⟩)) rfl [115, 116, 111, 112] [102, 111, 108, 100] false qf.out rfl rfl) ?_); simp only [Act.put, uA, uB, uC]) | ((with_reducible refine wl_run rfl (ex_seql _ 9 9 (.tmp 124) (.const (.string ⟨#[115, 116, 111, 112]⟩)) rfl [115, 116, 111, 112] [115, 116, 111, 112] true qs.out rfl rfl) ?_); simp only [Act.put, uA, uB, uC]) | ((refine wlG (ex_leq _ 3 3 (.tmp 130) (.const (.int .i64 4)) rfl .i64 st 4 rfl rfl true q4.out) ?_); simp only [Act.put, uA, uB, uC]) | ((with_reducible refine wl_rd rfl 3 (.tmp 135) (.const (.int .i64 4)) rfl info3s H2.out 6 (.int .i64 4) (.int .i64 st) rfl rfl rfl rfl (s' := s) (st' := 4) hset.out rfl rfl rfl c6 ?_); intro w2 H3 b3; have H3 := Hd.mk H3; have B3 := Hd.mk (B2.out.trans b3); clear b3))
 have hlt := Hd.mk H3.out.rs.lt
 refine (huq.out w2).mono ?_
 rintro e w3 hu
 obtain ⟨v, bb, c, rfl, hv, hvf, hc, k3⟩ := uqr_any hu
 have H4 := Hd.mk (H3.out.keep k3)
 have B4 := Hd.mk (B3.out.trans (Bo.of k3 (Nat.le_trans hb.out B3.out.size)))
 have hvn : Hd (∀ k, v.ownBlock = some k → ¬ VS.ownBlock = some k) := ⟨fun k e e2 => by have := hvf k e; have := hlt.out k e2; omega⟩
 replace hv := Hd.mk hv
 replace hc := Hd.mk hc
 have c3 := Hd.mk H4.out.c3
 obtain ⟨F, cF, hF, _⟩ := H4.out.rs.slice
 clear hu k3 hvf c6 huq
 go_wp2_with fail
 have hS : Hd ((fun W : World => W.cell? ⟨R, 3, none⟩ = some VS ∧ Bs W v (ints bb)) w3.drew) := ⟨⟨c3.out, bs_kpz hv.out (Kp.refl _ w3).drew⟩⟩
 refine rn_begin (fun W : World => W.cell? ⟨R, 3, none⟩ = some VS ∧ Bs W v (ints bb)) (List.range 15) (by kernel_rfl) ?_
 refine rnT [11, 12, 13, 14, 15] 0 141 (.pointer (some ⟨R, 0, none⟩)) (rnM rfl rfl) hS.out ?_
 refine rnT [2, 3, 4, 5, 6, 10, 15] 1 142 (.pointer (some ⟨R, 0, none⟩)) (rnM rfl rfl) hS.out ?_
 refine rnT [3, 4, 5, 6, 10, 15] 2 143 (.pointer (some ⟨R, 0, none⟩)) (fun W hW => ex_nilCheck W _ _ rfl rfl) hS.out ?_
 simp only [Act.put, uA, uB, uC]
 refine rnT [4, 5, 6, 10, 15] 3 144 (.pointer (some ⟨R, 0, none⟩)) (erF 108 0 _ rfl R 0 5 0 0 Tryz.underlying108 rfl) hS.out ?_
 refine rnT [5, 6, 10, 15] 4 145 (.pointer (some ⟨R, 2, none⟩)) (erF 53 2 _ rfl R 0 2 2 2 Tryz.underlying53 rfl) hS.out ?_
 refine rnT [6, 10, 15] 5 146 (.pointer (some ⟨R, 3, none⟩)) (erF 50 1 _ rfl R 2 0 1 3 Tryz.underlying50 rfl) hS.out ?_
 simp only [Act.put, uA, uB, uC]
 refine rnT [10, 15] 6 147 (VS) (fun W hW => by subst hF; exact ex_load W 48 _ _ rfl ⟨R, 3, none⟩ U48 rfl rfl hW.1) hS.out ?_
 refine rnT [8, 9, 10, 15] 7 148 (v) (rnM rfl rfl) hS.out ?_
 refine rnT [9, 10, 15] 8 149 (.string ⟨(bb).toArray⟩) (fun W hW => ex_tostr W 22 9 5 _ rfl U22 U5 U9 v bb hW.2 rfl) hS.out ?_
 simp only [Act.put, uA, uB, uC]
 have H5 := Hd.mk ((H4.out.keep (Kp.refl _ w3).drew).keep ((Kp.refl _ w3.drew).alloc (.cells #[.string ⟨bb.toArray⟩] 9)))
 have B5 : Hd (Bo b R w (w3.drew.alloc (.cells #[.string ⟨bb.toArray⟩] 9))) := ⟨B4.out.trans (Bo.of ((Kp.refl (fun _ => False) w3).drew.alloc _) (Nat.le_trans hb.out B4.out.size))⟩
 have r4 : Hd ((w3.drew.alloc (.cells #[.string ⟨bb.toArray⟩] 9)).rangeAt w3.drew.heap.size 0 [.string ⟨bb.toArray⟩]) := ⟨one_new _ _ _⟩
 have hS4 : Hd ((fun W : World => W.cell? ⟨R, 3, none⟩ = some VS ∧ Bs W v (ints bb)) (w3.drew.alloc (.cells #[.string ⟨bb.toArray⟩] 9))) := ⟨⟨((Kp.refl (fun _ => False) w3.drew).alloc _).see hS.out.1 id, bs_kpz hS.out.2 ((Kp.refl _ w3.drew).alloc _)⟩⟩
 refine rn_one (i := 9) (dst := some 150) rfl (by kernel_rfl) rfl rfl (fun K hK => ?_)
 refine ow_slit1 _ rfl bb rfl ?_
 refine hK _ _ (fun _ => hS4.out) ?_
 generalize w3.drew.heap.size = G at *
 generalize w3.drew.alloc (.cells #[.string ⟨bb.toArray⟩] 9) = u4 at *
 clear hK K hS
 have hS := hS4
 clear hS4
 simp only [Act.put, uA, uB, uC]
 refine rn_one (i := 10) (dst := some 151) rfl (by kernel_rfl) rfl rfl (fun K hK => ?_)
 refine ow_orG (.tmp 147) (.tmp 150) 48 rfl 9 1 16 U48 info9b rfl (by decide) (by decide) VS _ _ rfl H5.out.rs (Nat.le_trans hb.out B5.out.size) G 1 [.string ⟨bb.toArray⟩] rfl rfl r4.out (by simp [Value.oneCell']) (by have := hsl.out; omega) ?_
 intro V u5 ho hg
 have hS5 : Hd ((fun W : World => W.cell? ⟨R, 3, none⟩ = some VS ∧ Bs W v (ints bb)) u5) := ⟨⟨hg.kp.see hS.out.1 H5.out.ns, bs_keepS hS.out.2 hg.kp hvn.out⟩⟩
 refine hK _ _ (fun _ => hS5.out) ?_
 clear hK K hS
 have hS := hS5
 clear hS5
 have ho := Hd.mk ho
 have hg := Hd.mk hg
 simp only [Act.put, uA, uB, uC]
 refine rnT [12, 13, 14, 15] 11 152 (.pointer (some ⟨R, 0, none⟩)) (fun W hW => ex_nilCheck W _ _ rfl rfl) hS.out ?_
 refine rnT [13, 14, 15] 12 153 (.pointer (some ⟨R, 0, none⟩)) (erF 108 0 _ rfl R 0 5 0 0 Tryz.underlying108 rfl) hS.out ?_
 refine rnT [14, 15] 13 154 (.pointer (some ⟨R, 2, none⟩)) (erF 53 2 _ rfl R 0 2 2 2 Tryz.underlying53 rfl) hS.out ?_
 simp only [Act.put, uA, uB, uC]
 refine rnT [15] 14 155 (.pointer (some ⟨R, 3, none⟩)) (erF 50 1 _ rfl R 2 0 1 3 Tryz.underlying50 rfl) hS.out ?_
 simp only [Act.put, uA, uB, uC]
 have HF := Hd.mk (H5.out.word (x := bb) hg.out ho.out)
 have B6 : Hd (Bo b R w u5) := ⟨B5.out.trans (H5.out.rs.bo hg.out (Nat.le_trans hb.out B5.out.size))⟩
 have hfr : Hd (u5.frozen? ⟨R, 3, none⟩ = false) := ⟨Blk.free (hg.out.kp.keeps H5.out.blk H5.out.ns) 3⟩
 obtain ⟨A9, c9, e9, _⟩ := ho.out.slice
 replace e9 := Hd.mk e9
 refine rn_one (i := 15) (dst := none) rfl (by kernel_rfl) rfl rfl (fun K hK => ?_)
 refine ow_store 48 _ _ V VS rfl ⟨R, 3, none⟩ info48s rfl rfl (by rw [e9.out]; rfl) (by rw [e9.out]; rfl) hS.out.1 hfr.out ?_
 refine hK _ _ (fun h => (by cases h)) ?_
 have B7 : Hd (Bo b R w (u5.setCell ⟨R, 3, none⟩ V)) := ⟨B6.out.trans (bo_set (hg.out.kp.keeps H5.out.blk H5.out.ns) 3 V)⟩
 clear hK K hS H4 H3 H5 hg ho
 simp only [Act.put, uA, uB, uC]
 refine rn_done (by kernel_rfl) ?_ _
 have hst := Hd.mk (hstg.out bb)
 rcases hc.out with ⟨hu, rfl⟩ | ⟨hu, rfl⟩
 ·have hP := Hd.mk (hpy.out bb ((uq_iff false RS bb).1 hu).symm)
  clear hu hc
  go_wp2_with fail
  go_ret
  refine ⟨⟨true, rfl, fun h => (by cases h), fun _ => ⟨_, VF, V, VA, cs, hP.out, ?_⟩⟩, B7.out⟩
  rw [hst.out]
  exact HF.out
 ·replace hu := Hd.mk hu
  clear hc
  go_wp2_with fail
  go_ret
  refine ⟨⟨false, rfl, fun _ ⟨s1, hp⟩ => ?_, fun h => (by cases h)⟩, B7.out⟩
  obtain ⟨x, hx⟩ := hpn.out s1 hp
  have := (uq_iff false RS x).2 hx.symm
  rw [hu.out] at this
  cases this
end Go.Proofs.YtkcechpaeilaeaaGreatDoor
