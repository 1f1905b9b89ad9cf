/- Joined out of: R7 R14 Sr. -/
import Derived.Test.YtkcechpaeilaeaaGreatDoorK20
import Derived.Test.YtkcechpaeilaeaaGreatDoorK21
import Derived.Test.YtkcechpaeilaeaaGreatDoorK4
import Derived.Test.YtkcechpaeilaeaaGreatDoorK11
set_option linter.unusedVariables false
set_option linter.unusedSimpArgs false
namespace Go.Proofs.YtkcechpaeilaeaaGreatDoor
open Go.RowKit
set_option maxRecDepth 100000
theorem info51s : (Tryz.prog.info? 51).map (·.size) = some 1 := by kernel_rfl
theorem info24s : (Tryz.prog.info? 24).map (·.size) = some 5 := by kernel_rfl
theorem info24b : (Tryz.prog.info? 24).map (fun i => (i.zero, i.size, i.bytes)) = some (some (.agg Z5.toArray), 5, 80) := by kernel_rfl
theorem zero24' (w : World) : (zeroValue 24).run Tryz.prog w = .ok (.agg Z5.toArray) w := by kernel_rfl
theorem pre_act {k : Nat} {s s1 : Sc} {l : List UInt8} (hk : 3 ≤ k) (h1 : ¬ (wd l = [102, 111, 108, 100] ∧ s.ss = [] ∧ s.ac = [])) (h2 : ¬ (wd l = [115, 116, 111, 112] ∧ s.ac = [])) (h : Pre k s l s1) : ∃ a, may a ∧ line a = l := by
 rcases h with ⟨h, _⟩ | ⟨_, e1, e2, x, hx, rfl, _⟩ | ⟨_, e1, x, ⟨hs, hr⟩, _⟩ | ⟨_, a, ha, e, _⟩
 ·omega
 ·exact absurd ⟨(wd_fold _).1, e1, e2⟩ h1
 ·exact absurd ⟨hs, e1⟩ h2
 ·exact ⟨a, ha, e⟩
theorem off_new {R : Nat} {VF VS VA : Value} {b n : Nat} {w : World} {v : Value} {l : List Int} (h : BsF n w v l) (hR : R < n) (hf : ∀ k, VF.ownBlock = some k → k < n) (hs : ∀ k, VS.ownBlock = some k → k < n) (ha : ∀ k, VA.ownBlock = some k → k < n) : Off R VF VS VA w v l :=
 ⟨h.bs, fun _ e => by have := h.fr R e; omega, fun _ k e e2 => by have := h.fr k e; have := hf k e2; omega, fun _ k e e2 => by have := h.fr k e; have := hs k e2; omega, fun _ k e e2 => by have := h.fr k e; have := ha k e2; omega⟩
theorem row5n (w : World) (a b c d e : Value) (t : TypeId) : (w.alloc (.cells #[a, b, c, d, e] t)).rangeAt w.heap.size 0 [a, b, c, d, e] := fun j v hv => by
 rw [Lib.cell_of_heap (_root_.Go.heap_alloc_new w _)]
 simpa using hv
theorem wl_rdK {ops : Array Oper} {rest : List Oper} {o : Oper} {a : Act} {Q : Exit → Act → World → Prop} {b R : Nat} {w : World} {s : Sc} {st : Int} {VF VS VA : Value} {cs : List Value} (hg : o.guard = none) (t : Nat) (x y : Operand) (ho : o.op = .store t x y) (hi : (Tryz.prog.info? t).map (·.size) = some 1) (h : Rd b R w s st VF VS VA cs) (i : Nat) (v old : Value) (hx : a.eval x = .pointer (some ⟨R, i, none⟩)) (hy : a.eval y = v) (hv : v.cells = #[v]) (h1 : v.oneCell' = true) {s' : Sc} {st' : Int}
  (e : [.int .i64 s.pages, .int .i64 s.cache, VF, VS, .int .i64 s.cap, VA, .int .i64 st].set i v = [.int .i64 s'.pages, .int .i64 s'.cache, VF, VS, .int .i64 s'.cap, VA, .int .i64 st']) (e1 : s'.fl = s.fl) (e2 : s'.ss = s.ss) (e3 : s'.ac = s.ac)
  (hc : w.cell? ⟨R, i, none⟩ = some old) (hn : ∀ w2, Rd b R w2 s' st' VF VS VA cs → Kp (· = R) w w2 → wpList Tryz.prog ops Q rest (a.put o.dst undef) w2) : wpList Tryz.prog ops Q (o :: rest) a w :=
 wpList_plain hg fun _ hK => ow_store t x y v old ho ⟨R, i, none⟩ hi hx hy hv h1 hc (h.blk.free i) (hK _ _ (hn _ (h.put i v e e1 e2 e3) ((Kp.refl _ w).setCell _ _ (.inr rfl))))
set_option maxHeartbeats 16000000 in
theorem takes_act {b R : Nat} {w : World} (hE : Ev w) {s : Sc} {VF VS VA : Value} {cs : List Value} {k : Nat} (hk : 3 ≤ k) {st : Int} (hst3 : 3 ≤ st) (h : Rd b R w s st VF VS VA cs) (hal : s.ac.length ≤ 1000) (hb : b ≤ w.heap.size) (l : List UInt8) (hl : l.length < 70000)
  (h1 : ¬ (wd l = [102, 111, 108, 100] ∧ s.ss = [] ∧ s.ac = [])) (h2 : ¬ (wd l = [115, 116, 111, 112] ∧ s.ac = [])) (q1 q2 r3 r4 : Bool) (e1 : (wd l == [102, 111, 108, 100]) = q1) (e2 : (wd l == [115, 116, 111, 112]) = q2) (e3 : decide (st = 3) = r3) (e4 : decide (st ≤ 4) = r4)
  (hq : (q1 = false ∧ q2 = false) ∨ (q1 = true ∧ r3 = false ∧ q2 = false) ∨ (q1 = false ∧ q2 = true ∧ r4 = false)) :
  Calls Tryz.prog 75 #[.pointer (some ⟨R, 0, none⟩), .string ⟨l.toArray⟩] w fun e w' => TkR b R w w' k s l e := by
 have hcut := Hd.mk (cut_at (l := l) (by omega) hE)
 have hact := Hd.mk (fun u (hu : KZ w u) => act_at (l := l) hl (w := u) (hE.keep hu))
 have hpn := Hd.mk (fun s1 (hp : Pre k s l s1) => pre_act hk h1 h2 hp)
 have hpy : Hd (∀ a : A, may a → line a = l → Pre k s l { s with ac := s.ac ++ [a] }) := ⟨fun a ha e => .inr (.inr (.inr ⟨hk, a, ha, e, rfl⟩))⟩
 have hstg : Hd (∀ a : A, stg (k + 1) { s with ac := s.ac ++ [a] } = 5) := ⟨fun a => by
  have : ¬ k + 1 < 3 := by omega
  simp [stg, this]⟩
 obtain ⟨WD, hWD⟩ : ∃ x, wd l = x := ⟨_, rfl⟩
 rw [hWD] at hcut e1 e2
 have H := Hd.mk h
 replace hb := Hd.mk hb
 replace hal := Hd.mk hal
 replace e1 := Hd.mk e1
 replace e2 := Hd.mk e2
 replace e3 := Hd.mk e3
 replace e4 := Hd.mk e4
 have q3 : Hd (decide (st < 3) = false) := ⟨decide_eq_false (by omega)⟩
 clear h hl hE hWD hk hst3 h1 h2
 rcases hq with ⟨rfl, rfl⟩ | ⟨rfl, rfl, rfl⟩ | ⟨rfl, rfl, rfl⟩ <;> (
  go_enter Tryz.func75, Tryz.ntmps75
  go_wp2_with fail
  refine hcut.out.mono ?_
  rintro e w1 ⟨rfl, k1⟩
  have K2 := Hd.mk (k1.th ((Kp.refl _ w1).alloc (.cells #[.string ⟨#[112, 97, 103, 101, 115]⟩, .string ⟨#[99, 97, 99, 104, 101]⟩, .string ⟨#[99, 97, 112]⟩] 123)))
  have H2 := Hd.mk (H.out.keep K2.out)
  have c6 := H2.out.c6
  clear k1 hcut H
  go_wp2_with (first | (simp only [Bool.false_eq_true, if_false]) | ((with_reducible refine wl_run rfl (ex_lss _ 3 3 (.tmp 25) (.const (.int .i64 3)) rfl .i64 st 3 rfl rfl false q3.out) ?_); simp only [Act.put, uA, uB, uC]) | ((with_reducible refine wl_run rfl (ex_seql _ 9 9 (.tmp 82) (.const (.string ⟨#[102, 111, 108, 100]⟩)) rfl WD [102, 111, 108, 100] _ e1.out rfl rfl) ?_); simp only [Act.put, uA, uB, uC]) | ((with_reducible refine wl_run rfl (ex_seql _ 9 9 (.tmp 124) (.const (.string ⟨#[115, 116, 111, 112]⟩)) rfl WD [115, 116, 111, 112] _ e2.out rfl rfl) ?_); simp only [Act.put, uA, uB, uC]) | ((refine wlG (ex_eql _ 3 3 (.tmp 88) (.const (.int .i64 3)) rfl .i64 st 3 rfl rfl _ e3.out) ?_); simp only [Act.put, uA, uB, uC]) | ((refine wlG (ex_leq _ 3 3 (.tmp 130) (.const (.int .i64 4)) rfl .i64 st 4 rfl rfl _ e4.out) ?_); simp only [Act.put, uA, uB, uC]))
  have hn2 := Hd.mk (And.intro H2.out.lt (And.intro H2.out.rf.lt (And.intro H2.out.rs.lt H2.out.ra.lt)))
  refine (hact.out _ K2.out).mono ?_
  rintro e w3 ⟨⟨x, At, ct, Ap, cp, ok, rfl, hs, _, hT, hP⟩, k3⟩
  obtain ⟨c, hcd⟩ : ∃ c : Int, (if ok then (0 : Int) else 270) = c := ⟨_, rfl⟩
  have hc : Hd ((ok = true ∧ c = 0) ∨ (ok = false ∧ c = 270)) := ⟨by cases ok <;> simp at hcd <;> subst hcd <;> simp⟩
  rw [hcd]
  have T3 := Hd.mk (off_new (b := b) hT hn2.out.1 hn2.out.2.1 hn2.out.2.2.1 hn2.out.2.2.2)
  have P3 := Hd.mk (off_new (b := b) hP hn2.out.1 hn2.out.2.1 hn2.out.2.2.1 hn2.out.2.2.2)
  have H3 := Hd.mk (H2.out.keep k3)
  have K3 := Hd.mk (K2.out.th k3)
  replace hs := Hd.mk hs
  have hP2 := Hd.mk (fun (e : ok = true) => hpy.out x (hs.out.yes e).1 (hs.out.yes e).2)
  have hst := Hd.mk (hstg.out x)
  obtain ⟨xd, xk, xt, xn, xp⟩ := x
  simp only at T3 P3
  obtain ⟨w4, hw4⟩ : ∃ w4, w3.alloc (.cells #[.int .i64 xd, .string ⟨xk.toArray⟩, .slice At xt.length ct, .int .i64 xn, .slice Ap xp.length cp] 24) = w4 := ⟨_, rfl⟩
  have k4 : KZ w3 w4 := by rw [← hw4]; exact (Kp.refl _ w3).alloc _
  have H4 := Hd.mk (H3.out.keep k4)
  have T4 := Hd.mk (T3.out.keep k4)
  have P4 := Hd.mk (P3.out.keep k4)
  have K4 := Hd.mk (K3.out.th k4)
  have r4 : w4.rangeAt w3.heap.size 0 [.int .i64 xd, .string ⟨xk.toArray⟩, .slice At xt.length ct, .int .i64 xn, .slice Ap xp.length cp] := by rw [← hw4]; exact row5n _ _ _ _ _ _ _
  have hbn : Hd (R ≠ w3.heap.size ∧ VA.ownBlock ≠ some w3.heap.size) := ⟨⟨fun e => by have := H3.out.lt; omega, fun e => by have := H3.out.ra.lt _ e; omega⟩⟩
  replace r4 := Hd.mk r4
  have c6' := H4.out.c6
  have hset : Hd (([.int .i64 s.pages, .int .i64 s.cache, VF, VS, .int .i64 s.cap, VA, .int .i64 st] : List Value).set 6 (.int .i64 5) = [.int .i64 s.pages, .int .i64 s.cache, VF, VS, .int .i64 s.cap, VA, .int .i64 5]) := ⟨rfl⟩
  obtain ⟨G, hG⟩ : ∃ G, Hd (w3.heap.size = G) := ⟨_, ⟨rfl⟩⟩
  rw [hG.out] at r4 hbn
  rw [← hw4] at c6'
  replace hw4 := Hd.mk hw4
  clear c6 k3 k4 hT hP hcd hact K2 H2 K3 hn2 T3 P3 H3
  go_wp2_with (first | (rewrite [hw4.out, hG.out]) | ((with_reducible refine wl_rdK rfl 3 (.tmp 165) (.const (.int .i64 5)) rfl info3s H4.out 6 (.int .i64 5) (.int .i64 st) rfl rfl rfl rfl (s' := s) (st' := 5) hset.out rfl rfl rfl H4.out.c6 ?_); intro w5 H5 k5; have H5 := Hd.mk H5; have k5' := Hd.mk k5; clear k5))
  have T5 := Hd.mk (T4.out.keepS k5'.out (fun hl k e e2 => T4.out.r hl (by rw [← e2]; exact e)))
  have P5 := Hd.mk (P4.out.keepS k5'.out (fun hl k e e2 => P4.out.r hl (by rw [← e2]; exact e)))
  have r5 : Hd (w5.rangeAt G 0 [.int .i64 xd, .string ⟨xk.toArray⟩, .slice At xt.length ct, .int .i64 xn, .slice Ap xp.length cp]) := ⟨fun j v hv => k5'.out.see (r4.out j v hv) (fun e => hbn.out.1 e.symm)⟩
  have B5 : Hd (Bo b R w w5) := ⟨(Bo.of K4.out hb.out).trans (Bo.kpS k5'.out (fun i e => by subst e; exact ⟨.inl rfl, _, _, H4.out.blk⟩))⟩
  obtain ⟨F, cF, hF, _⟩ := H5.out.ra.slice
  have c5 := Hd.mk H5.out.c5
  clear K4 k5' r4 T4 P4 H4 c6' hset
  have hS : Hd ((fun W : World => W.cell? ⟨R, 5, none⟩ = some VA ∧ W.rangeAt G 0 [.int .i64 xd, .string ⟨xk.toArray⟩, .slice At xt.length ct, .int .i64 xn, .slice Ap xp.length cp]) w5.drew) := ⟨⟨c5.out, rangez r5.out (Kp.refl _ w5).drew⟩⟩
  refine rn_begin (fun W : World => W.cell? ⟨R, 5, none⟩ = some VA ∧ W.rangeAt G 0 [.int .i64 xd, .string ⟨xk.toArray⟩, .slice At xt.length ct, .int .i64 xn, .slice Ap xp.length cp]) (List.range 12) (by kernel_rfl) ?_
  refine rnT [9, 10, 11, 12] 0 166 (.pointer (some ⟨R, 0, none⟩)) (rnM rfl rfl) hS.out ?_
  refine rnT [2, 3, 4, 5, 8, 12] 1 167 (.pointer (some ⟨R, 0, none⟩)) (rnM rfl rfl) hS.out ?_
  refine rnT [3, 4, 5, 8, 12] 2 168 (.pointer (some ⟨R, 0, none⟩)) (fun W hW => ex_nilCheck W _ _ rfl rfl) hS.out ?_
  simp only [Act.put, uA, uB, uC]
  refine rnT [4, 5, 8, 12] 3 169 (.pointer (some ⟨R, 0, none⟩)) (erF 108 0 _ rfl R 0 5 0 0 Tryz.underlying108 rfl) hS.out ?_
  refine rnT [5, 8, 12] 4 170 (.pointer (some ⟨R, 5, none⟩)) (erF 53 3 _ rfl R 0 0 5 5 Tryz.underlying53 rfl) hS.out ?_
  refine rnT [8, 12] 5 171 (VA) (fun W hW => by subst hF; exact ex_load W 51 _ _ rfl ⟨R, 5, none⟩ U51 rfl rfl hW.1) hS.out ?_
  simp only [Act.put, uA, uB, uC]
  refine rnT [7, 8, 12] 6 172 (.agg ([.int .i64 xd, .string ⟨xk.toArray⟩, .slice At xt.length ct, .int .i64 xn, .slice Ap xp.length cp] : List Value).toArray) (fun W hW => ex_load_mid W 24 _ rfl G 0 rfl _ hW.2 Tryz.underlying24 rfl (by kernel_rfl)) hS.out ?_
  simp only [Act.put, uA, uB, uC]
  have H6 := Hd.mk ((H5.out.keep (Kp.refl _ w5).drew).keep ((Kp.refl _ w5.drew).alloc (.cells ([.int .i64 xd, .string ⟨xk.toArray⟩, .slice At xt.length ct, .int .i64 xn, .slice Ap xp.length cp] : List Value).toArray 24)))
  have T6 := Hd.mk ((T5.out.keep (Kp.refl _ w5).drew).keep ((Kp.refl _ w5.drew).alloc (.cells ([.int .i64 xd, .string ⟨xk.toArray⟩, .slice At xt.length ct, .int .i64 xn, .slice Ap xp.length cp] : List Value).toArray 24)))
  have P6 := Hd.mk ((P5.out.keep (Kp.refl _ w5).drew).keep ((Kp.refl _ w5.drew).alloc (.cells ([.int .i64 xd, .string ⟨xk.toArray⟩, .slice At xt.length ct, .int .i64 xn, .slice Ap xp.length cp] : List Value).toArray 24)))
  have B6 : Hd (Bo b R w (w5.drew.alloc (.cells ([.int .i64 xd, .string ⟨xk.toArray⟩, .slice At xt.length ct, .int .i64 xn, .slice Ap xp.length cp] : List Value).toArray 24))) := ⟨B5.out.trans (Bo.of ((Kp.refl (fun _ => False) w5).drew.alloc _) (Nat.le_trans hb.out B5.out.size))⟩
  have r6 : Hd ((w5.drew.alloc (.cells ([.int .i64 xd, .string ⟨xk.toArray⟩, .slice At xt.length ct, .int .i64 xn, .slice Ap xp.length cp] : List Value).toArray 24)).rangeAt w5.drew.heap.size 0 [.int .i64 xd, .string ⟨xk.toArray⟩, .slice At xt.length ct, .int .i64 xn, .slice Ap xp.length cp]) := ⟨row5n _ _ _ _ _ _ _⟩
  have hS6 : Hd ((fun W : World => W.cell? ⟨R, 5, none⟩ = some VA ∧ W.rangeAt G 0 [.int .i64 xd, .string ⟨xk.toArray⟩, .slice At xt.length ct, .int .i64 xn, .slice Ap xp.length cp]) (w5.drew.alloc (.cells ([.int .i64 xd, .string ⟨xk.toArray⟩, .slice At xt.length ct, .int .i64 xn, .slice Ap xp.length cp] : List Value).toArray 24))) := ⟨⟨((Kp.refl (fun _ => False) w5.drew).alloc _).see hS.out.1 id, rangez hS.out.2 ((Kp.refl _ w5.drew).alloc _)⟩⟩
  refine rn_one (i := 7) (dst := some 173) rfl (by kernel_rfl) rfl rfl (fun K hK => ?_)
  refine ow_run (ex_buildSlice1 _ 51 24 _ rfl U51 [.int .i64 xd, .string ⟨xk.toArray⟩, .slice At xt.length ct, .int .i64 xn, .slice Ap xp.length cp] rfl Z5 (zero24' _) info24s rfl (by simp) (by simp)) ?_
  refine hK _ _ (fun _ => hS6.out) ?_
  generalize w5.drew.heap.size = G2 at *
  generalize w5.drew.alloc (.cells ([.int .i64 xd, .string ⟨xk.toArray⟩, .slice At xt.length ct, .int .i64 xn, .slice Ap xp.length cp] : List Value).toArray 24) = u4 at *
  clear hK K hS
  have hS := hS6
  clear hS6
  simp only [Act.put, uA, uB, uC]
  refine rn_one (i := 8) (dst := some 174) rfl (by kernel_rfl) rfl rfl (fun K hK => ?_)
  refine ow_orG (.tmp 171) (.tmp 173) 51 rfl 24 5 80 U51 info24b rfl (by decide) (by decide) VA _ _ rfl H6.out.ra (Nat.le_trans hb.out B6.out.size) G2 1 [.int .i64 xd, .string ⟨xk.toArray⟩, .slice At xt.length ct, .int .i64 xn, .slice Ap xp.length cp] rfl rfl r6.out (by simp [Value.oneCell']) (by have := hal.out; omega) ?_
  intro V u5 ho hg
  have hS7 : Hd ((fun W : World => W.cell? ⟨R, 5, none⟩ = some VA ∧ W.rangeAt G 0 [.int .i64 xd, .string ⟨xk.toArray⟩, .slice At xt.length ct, .int .i64 xn, .slice Ap xp.length cp]) u5) := ⟨⟨hg.kp.see hS.out.1 H6.out.na, fun j v hv => hg.kp.see (hS.out.2 j v hv) hbn.out.2⟩⟩
  refine hK _ _ (fun _ => hS7.out) ?_
  clear hK K hS
  have hS := hS7
  clear hS7
  have ho := Hd.mk ho
  have hg := Hd.mk hg
  simp only [Act.put, uA, uB, uC]
  refine rnT [10, 11, 12] 9 175 (.pointer (some ⟨R, 0, none⟩)) (fun W hW => ex_nilCheck W _ _ rfl rfl) hS.out ?_
  refine rnT [11, 12] 10 176 (.pointer (some ⟨R, 0, none⟩)) (erF 108 0 _ rfl R 0 5 0 0 Tryz.underlying108 rfl) hS.out ?_
  refine rnT [12] 11 177 (.pointer (some ⟨R, 5, none⟩)) (erF 53 3 _ rfl R 0 0 5 5 Tryz.underlying53 rfl) hS.out ?_
  simp only [Act.put, uA, uB, uC]
  have HF := Hd.mk (H6.out.act (x := ⟨xd, xk, xt, xn, xp⟩) (At := At) (ct := ct) (Ap := Ap) (cp := cp) hg.out ho.out T6.out P6.out)
  have B7 : Hd (Bo b R w u5) := ⟨B6.out.trans (H6.out.ra.bo hg.out (Nat.le_trans hb.out B6.out.size))⟩
  have hfr : Hd (u5.frozen? ⟨R, 5, none⟩ = false) := ⟨Blk.free (hg.out.kp.keeps H6.out.blk H6.out.na) 5⟩
  obtain ⟨A9, c9, e9, _⟩ := ho.out.slice
  replace e9 := Hd.mk e9
  refine rn_one (i := 12) (dst := none) rfl (by kernel_rfl) rfl rfl (fun K hK => ?_)
  refine ow_store 51 _ _ V VA rfl ⟨R, 5, none⟩ info51s rfl rfl (by rw [e9.out]; rfl) (by rw [e9.out]; rfl) hS.out.1 hfr.out ?_
  refine hK _ _ (fun h => (by cases h)) ?_
  have B8 : Hd (Bo b R w (u5.setCell ⟨R, 5, none⟩ V)) := ⟨B7.out.trans (bo_set (hg.out.kp.keeps H6.out.blk H6.out.na) 5 V)⟩
  clear hK K hS H5 H6 hg ho T5 P5 T6 P6 r5 r6
  simp only [Act.put, uA, uB, uC]
  refine rn_done (by kernel_rfl) ?_ _
  rcases hc.out with ⟨hu, rfl⟩ | ⟨hu, rfl⟩
  ·have hP3 := Hd.mk (hP2.out hu)
   clear hu hc
   go_wp2_with fail
   go_ret
   refine ⟨⟨true, rfl, fun h => (by cases h), fun _ => ⟨_, VF, VS, V, cs ++ arow ⟨xd, xk, xt, xn, xp⟩ At ct Ap cp, hP3.out, ?_⟩⟩, B8.out⟩
   rw [hst.out]
   exact HF.out
  ·replace hu := Hd.mk hu
   clear hc
   go_wp2_with fail
   go_ret
   refine ⟨⟨false, rfl, fun _ ⟨s1, hp⟩ => ?_, fun h => (by cases h)⟩, B8.out⟩
   obtain ⟨y, hy, e⟩ := hpn.out s1 hp
   exact hs.out.no hu.out y hy e)
end Go.Proofs.YtkcechpaeilaeaaGreatDoor
namespace Go.Proofs.YtkcechpaeilaeaaGreatDoor
open Go Go.RowKit
section
variable {o : Oper} {a : Act}
theorem ex_buildSlice0 (w : World) (t e : TypeId) (ho : o.op = .buildSlice t 0 #[]) (ht : Tryz.prog.underlying t = some (.slice e)) (sz : Nat) (hi : (Tryz.prog.info? e).map (·.size) = some sz) {z : Value} (hz : (zeroValue e).run Tryz.prog w = .ok z w) :
  (execOp a.eval o).run Tryz.prog w = .ok (.value (.slice (some ⟨w.heap.size, 0, none⟩) 0 0)) (w.alloc (.cells #[] e)) := by
 unfold execOp
 have hsz : (sizeOf e).run Tryz.prog w = .ok sz w := by
  cases hq : Tryz.prog.info? e with
  | none => rw [hq] at hi; simp at hi
  | some i => rw [hq] at hi; simp at hi; simp [sizeOf, typeInfo, hq, hi]
 have e0 : Array.map (fun (_ : Nat) => (default : Value)) (Array.range 0) = #[] := by simp [Array.range]
 simp [ho, Instr.buildSlice, Sem.run_bind, run_underlying ht, hsz, hz, Instr.fill, newRow, newObj, Sem.run, e0]
theorem run_many {b : Nat} {w : World} (s x : Operand) (t : TypeId) (ho : o.op = .call { callee := .builtin .append, args := #[s, x], argTypes := #[t, t] })
  (e : TypeId) (size bytes : Nat) {z : Value} (ht : Tryz.prog.underlying t = some (.slice e)) (hinf : (Tryz.prog.info? e).map (fun i => (i.zero, i.size, i.bytes)) = some (some z, size, bytes)) (hzs : z.cells.size = size) (hsz : 0 < size) (hby : bytes ≤ 1000)
  (v : Value) (hs : a.eval s = v) (hown : Or b e size w v 0 []) (hb : b ≤ w.heap.size) (V : Value) (n : Nat) (xs : List Value) (hx : a.eval x = V) (hV : Or 0 e size w V n xs) (hz : n = 0 → V = .slice none 0 0) (h1 : ∀ u ∈ xs, u.oneCell' = true) (hn : n ≤ 1000000000) :
  ∃ v' w', (execOp a.eval o).run Tryz.prog w = .ok (.value v') w' ∧ Or b e size w' v' n xs ∧ Kp (fun k => v.ownBlock = some k) w w' := by
 obtain ⟨i0, hi, hz0, hz1, hz2⟩ := info_parts hinf
 rcases Nat.eq_zero_or_pos n with h0 | h0
 ·subst h0
  rw [hz rfl] at hx
  have hr := run_append_owned_none (P := Tryz.prog) (w := w) 0 t o.type e i0 size ht hi v 0 [] hown.own
  have hxs : xs = [] := List.eq_nil_of_length_eq_zero (by have := hV.own.1; simpa using this)
  subst hxs
  refine ⟨v, w, ?_, hown, Kp.refl _ _⟩
  unfold execOp
  simp only [ho, resolve, invoke, builtin, Sem.run_bind, Sem.run_pure, Result.andThen_ok, List.map_toArray, List.map_cons, List.map_nil, hs, hx, hr]
 ·obtain ⟨A, c, rfl, hc⟩ := hV.slice
  obtain ⟨g, rfl, hr0, _⟩ := hV.at h0
  obtain ⟨v', w', hr, h2, h3, h4⟩ := run_append_mine (P := Tryz.prog) w t o.type e i0 z size bytes ht hi hz0 hz1 hz2 hzs hsz v 0 [] hown.own ⟨g, 0, none⟩ n c xs hV.own.1 (rangeAt_add hr0) h1 (by simp only [maxLen]; omega) (by
   have : (0 + n) * bytes ≤ 1000000000 * 1000 := Nat.mul_le_mul (by omega) hby
   omega) h0
  rw [Nat.zero_add, List.nil_append] at h2
  refine ⟨v', w', ?_, ⟨h2, fun k hk => (h4 k hk).elim (hown.new k) (fun h => Nat.le_trans hb h)⟩, h3⟩
  unfold execOp
  simp only [ho, resolve, invoke, builtin, Sem.run_bind, Sem.run_pure, Result.andThen_ok, List.map_toArray, List.map_cons, List.map_nil, hs, hx, hr]
theorem run_one {b : Nat} {w : World} (s x : Operand) (t : TypeId) (ho : o.op = .call { callee := .builtin .append, args := #[s, x], argTypes := #[t, t] })
  (e : TypeId) (size bytes : Nat) {z : Value} (ht : Tryz.prog.underlying t = some (.slice e)) (hinf : (Tryz.prog.info? e).map (fun i => (i.zero, i.size, i.bytes)) = some (some z, size, bytes)) (hzs : z.cells.size = size) (hsz : 0 < size) (hby : bytes ≤ 1000)
  (v : Value) (n : Nat) (xs : List Value) (hs : a.eval s = v) (hown : Or b e size w v n xs) (hb : b ≤ w.heap.size)
  (g c : Nat) (news : List Value) (hx : a.eval x = .slice (some ⟨g, 0, none⟩) 1 c) (hl : news.length = size) (hnews : w.rangeAt g 0 news) (h1 : ∀ u ∈ news, u.oneCell' = true) (hn : n ≤ 1000000000) :
  ∃ v' w', (execOp a.eval o).run Tryz.prog w = .ok (.value v') w' ∧ Or b e size w' v' (n + 1) (xs ++ news) ∧ Kp (fun k => b ≤ k) w w' := by
 obtain ⟨i0, hi, hz0, hz1, hz2⟩ := info_parts hinf
 obtain ⟨v', w', hr, h2, h3, h4⟩ := run_append_mine (P := Tryz.prog) w t o.type e i0 z size bytes ht hi hz0 hz1 hz2 hzs hsz v n xs hown.own ⟨g, 0, none⟩ 1 c news (by omega) (rangeAt_add hnews) h1 (by simp only [maxLen]; omega) (by
  have : (n + 1) * bytes ≤ 1000000001 * 1000 := Nat.mul_le_mul (by omega) hby
  omega) (by omega)
 refine ⟨v', w', ?_, ⟨h2, fun k hk => (h4 k hk).elim (hown.new k) (fun h => Nat.le_trans hb h)⟩, h3.mono (fun k _ hk => hown.new k hk)⟩
 unfold execOp
 simp only [ho, resolve, invoke, builtin, Sem.run_bind, Sem.run_pure, Result.andThen_ok, List.map_toArray, List.map_cons, List.map_nil, hs, hx, hr]
end
theorem Kp.from {b : Nat} {w0 w w' : World} (h : KZ w0 w) (k : Kp (fun k => b ≤ k) w w') (hb : w0.heap.size ≤ b) : KZ w0 w' :=
 h.andThen k (fun i hi hle => by omega)
theorem set_swap (l : Array Bool) {i j : Nat} (h : i ≠ j) : (l.setIfInBounds i true).setIfInBounds j true = (l.setIfInBounds j true).setIfInBounds i true := by
 apply Array.ext'
 simp only [Array.toList_setIfInBounds]
 exact List.set_comm true true h
section
variable {ops : Array Oper} {Q : Exit → Act → World → Prop} {S : World → Prop} {nd : List Nat}
theorem rn_grow {i k j m di dk dj dm : Nat} {oi ok oj om : Oper} {fuel : Nat} {listed : Array Bool} {a : Act} {w : World} (t e : TypeId) (size bytes : Nat) {z : Value}
  (hi : ops[i]? = some oi) (hk : ops[k]? = some ok) (hj : ops[j]? = some oj) (hm : ops[m]? = some om)
  (di' : oi.dst = some di) (dk' : ok.dst = some dk) (dj' : oj.dst = some dj) (dm' : om.dst = some dm) (gi : oi.guard = none) (gk : ok.guard = none) (gj : oj.guard = none) (gm : om.guard = none)
  (src x : Nat) (pi : oi.op = .buildSlice t 0 #[]) (pk : ok.op = .call { callee := .builtin .append, args := #[.tmp di, .tmp src], argTypes := #[t, t] }) (pj : oj.op = .buildSlice t 1 #[(0, .tmp x)])
  (pm : om.op = .call { callee := .builtin .append, args := #[.tmp dk, .tmp dj], argTypes := #[t, t] })
  (hne : (di != dk && di != dj && dk != dj && src != di && src != dj && x != di && x != dk && decide (di < a.tmps.size) && decide (dk < a.tmps.size) && decide (dj < a.tmps.size)) = true) (hij : (i != j && k != j) = true)
  (r0 : Region.ready .any ops listed = [i, j]) (r1 : Region.ready .any ops (listed.setIfInBounds i true) = [k, j]) (r2 : Region.ready .any ops ((listed.setIfInBounds i true).setIfInBounds k true) = [j])
  (r3 : Region.ready .any ops (listed.setIfInBounds j true) = [i]) (r4 : Region.ready .any ops ((listed.setIfInBounds i true).setIfInBounds j true) = [k]) (r5 : Region.ready .any ops (((listed.setIfInBounds i true).setIfInBounds k true).setIfInBounds j true) = [m])
  (ht : Tryz.prog.underlying t = some (.slice e)) (hinf : (Tryz.prog.info? e).map (fun i => (i.zero, i.size, i.bytes)) = some (some z, size, bytes)) (hzs : z.cells.size = size) (hsz : 0 < size) (hby : bytes ≤ 1000) (hz : ∀ w, (zeroValue e).run Tryz.prog w = .ok z w)
  (V : Value) (n : Nat) (xs : List Value) (hV : a.eval (.tmp src) = V) (hO : Or 0 e size w V n xs) (hV0 : n = 0 → V = .slice none 0 0) (h1 : ∀ u ∈ xs, u.oneCell' = true) (hn : n ≤ 1000000)
  (news : List Value) (hx : ∀ (b : Act) (w' : World), b.eval (.tmp x) = a.eval (.tmp x) → (execOp b.eval oj).run Tryz.prog w' = .ok (.value (.slice (some ⟨w'.heap.size, 0, none⟩) 1 1)) (w'.alloc (.cells news.toArray e))) (hnl : news.length = size) (h2 : ∀ u ∈ news, u.oneCell' = true)
  (hS : ∀ w', KZ w w' → S w')
  (h : ∀ Vi Vk Vj Vm w', Or w.heap.size e size w' Vm (n + 1) (xs ++ news) → KZ w w' →
   wpAnyN Tryz.prog .any ops Q S nd fuel ((((listed.setIfInBounds i true).setIfInBounds k true).setIfInBounds j true).setIfInBounds m true) ((((a.put (some di) Vi).put (some dk) Vk).put (some dj) Vj).put (some dm) Vm) w') :
  wpAnyN Tryz.prog .any ops Q S nd (fuel + 4) listed a w := by
 simp only [Bool.and_eq_true, bne_iff_ne, ne_eq, decide_eq_true_eq] at hne hij
 obtain ⟨⟨⟨⟨⟨⟨⟨⟨⟨n1, n2⟩, n3⟩, n4⟩, n5⟩, n6⟩, n7⟩, s1⟩, s2⟩, s3⟩ := hne
 have ev : ∀ (b : Act) (d : Nat) (v : Value) (t : Nat), t ≠ d → (b.put (some d) v).eval (.tmp t) = b.eval (.tmp t) := fun b d v t hne => Act.eval_put (fun d' e => by cases e; intro e2; injection e2 with e2; exact hne e2)
 have es : ∀ (b : Act) (d : Nat) (v : Value), d < b.tmps.size → (b.put (some d) v).eval (.tmp d) = v := fun b d v hd => by
  simp [Act.put, Act.eval, Array.getD, hd]
 have sz : ∀ (b : Act) (d : Nat) (v : Value), (b.put (some d) v).tmps.size = b.tmps.size := fun b d v => by simp [Act.put]
 have hsz' : (Tryz.prog.info? e).map (·.size) = some size := by
  cases hq : Tryz.prog.info? e with
  | none => rw [hq] at hinf; simp at hinf
  | some i => rw [hq] at hinf; simp at hinf ⊢; exact hinf.2.1
 have want : ∀ (o : Oper) (b : Act), o.guard = none → Region.wanted o (yielded ops b.tmps) = true := fun o b hg => by unfold Region.wanted; rw [hg]
 -- the last one
 have last : ∀ (Vi Vk Vj : Value) (G : Nat) (b : Act) (w' : World), b = ((a.put (some di) Vi).put (some dk) Vk).put (some dj) Vj → Vj = .slice (some ⟨G, 0, none⟩) 1 1 → Or w.heap.size e size w' Vk n xs → w'.rangeAt G 0 news → KZ w w' →
   wpAnyN Tryz.prog .any ops Q S nd (fuel + 1) (((listed.setIfInBounds i true).setIfInBounds k true).setIfInBounds j true) b w' := by
  intro Vi Vk Vj G b w' hb hG ho hr hkp
  subst hb
  refine rn_one hm r5 dm' (want _ _ gm) (fun K hK => ?_)
  obtain ⟨v', w2, q1, q2, q3⟩ := run_one (a := ((a.put (some di) Vi).put (some dk) Vk).put (some dj) Vj) (w := w') (.tmp dk) (.tmp dj) t pm e size bytes ht hinf hzs hsz hby Vk n xs (by rw [ev _ _ _ _ n3, es _ _ _ (by rw [sz]; exact s2)]) ho hkp.size G 1 news (by rw [es _ _ _ (by rw [sz, sz]; exact s3), hG]) hnl hr h2 (by omega)
  have hkp2 := hkp.from q3 (Nat.le_refl _)
  exact ow_run q1 (hK v' w2 (fun _ => hS w2 hkp2) (h Vi Vk Vj v' w2 q2 hkp2))
 have newr : ∀ w' : World, (w'.alloc (.cells news.toArray e)).rangeAt w'.heap.size 0 news := fun w' j v hv => by
  rw [Lib.cell_of_heap (_root_.Go.heap_alloc_new w' _)]
  simpa using hv
 have keepr : ∀ {w1 w2 : World} {G : Nat}, w1.rangeAt G 0 news → (∀ u, w1.heap[G]? = some u → w2.heap[G]? = w1.heap[G]?) → w2.rangeAt G 0 news := fun {w1 w2 G} hr hu => by
  refine rangeAt_keep hr ?_
  have hlt := rangeAt_lt hr (fun e => by rw [e] at hnl; simp at hnl; omega)
  exact hu _ (Array.getElem?_eq_getElem hlt)
 refine rn_two hi hj r0 di' dj' (want _ _ gi) (want _ _ gj) (fun K hK => ?_) (fun K hK => ?_)
 ·-- the empty row first
  have kA : KZ w (w.alloc (.cells #[] e)) := (Kp.refl _ w).alloc _
  refine ow_run (ex_buildSlice0 (a := a) w t e pi ht size hsz' (hz w)) (hK _ _ (fun _ => hS _ kA) ?_)
  have oA : Or w.heap.size e size (w.alloc (.cells #[] e)) (.slice (some ⟨w.heap.size, 0, none⟩) 0 0) 0 [] := Or.fresh w _ e size (Nat.le_refl _)
  have sA : w.heap.size ≤ (w.alloc (.cells #[] e)).heap.size := kA.size
  refine rn_two hk hj r1 dk' dj' (want _ _ gk) (want _ _ gj) (fun K hK => ?_) (fun K hK => ?_)
  ·obtain ⟨Vk, w2, q1, q2, q3⟩ := run_many (a := a.put (some di) (.slice (some ⟨w.heap.size, 0, none⟩) 0 0)) (w := w.alloc (.cells #[] e)) (.tmp di) (.tmp src) t pk e size bytes ht hinf hzs hsz hby _ (es _ _ _ s1) oA sA V n xs (by rw [ev _ _ _ _ n4, hV]) (hO.keep kA) hV0 h1 (by omega)
   have kB := kA.from (q3.mono (fun k _ hk => oA.new k hk)) (Nat.le_refl _)
   refine ow_run q1 (hK _ _ (fun _ => hS _ kB) ?_)
   refine rn_one hj r2 dj' (want _ _ gj) (fun K hK => ?_)
   have kC : KZ w2 (w2.alloc (.cells news.toArray e)) := (Kp.refl _ w2).alloc _
   refine ow_run (hx _ w2 (by rw [ev _ _ _ _ n7, ev _ _ _ _ n6])) (hK _ _ (fun _ => hS _ (kB.th kC)) ?_)
   exact last _ _ _ w2.heap.size _ _ rfl rfl (q2.keep kC) (newr w2) (kB.th kC)
  ·have kC : KZ (w.alloc (.cells #[] e)) ((w.alloc (.cells #[] e)).alloc (.cells news.toArray e)) := (Kp.refl _ _).alloc _
   have kAC := kA.th kC
   refine ow_run (hx _ (w.alloc (.cells #[] e)) (by rw [ev _ _ _ _ n6])) (hK _ _ (fun _ => hS _ kAC) ?_)
   refine rn_one hk r4 dk' (want _ _ gk) (fun K hK => ?_)
   obtain ⟨Vk, w2, q1, q2, q3⟩ := run_many (a := (a.put (some di) (.slice (some ⟨w.heap.size, 0, none⟩) 0 0)).put (some dj) (.slice (some ⟨(w.alloc (.cells #[] e)).heap.size, 0, none⟩) 1 1)) (w := (w.alloc (.cells #[] e)).alloc (.cells news.toArray e)) (.tmp di) (.tmp src) t pk e size bytes ht hinf hzs hsz hby _ (by rw [ev _ _ _ _ n2, es _ _ _ s1]) (oA.keep kC) (Nat.le_trans sA kC.size) V n xs (by rw [ev _ _ _ _ n5, ev _ _ _ _ n4, hV]) ((hO.keep kA).keep kC) hV0 h1 (by omega)
   have kB := kAC.from (q3.mono (fun k _ hk => oA.new k hk)) (Nat.le_refl _)
   refine ow_run q1 (hK _ _ (fun _ => hS _ kB) ?_)
   have hl : (listed.setIfInBounds i true).setIfInBounds j true = (listed.setIfInBounds i true).setIfInBounds j true := rfl
   rw [set_swap (listed.setIfInBounds i true) (fun e => hij.2 e.symm)]
   refine last (.slice (some ⟨w.heap.size, 0, none⟩) 0 0) Vk _ (w.alloc (.cells #[] e)).heap.size _ _ (Act.put_comm _ _ _ (fun d e1 e2 => n3 (by cases e1; cases e2; rfl))) rfl q2 ?_ kB
   refine rangeAt_keep (newr _) (q3.block _ (by rw [size_alloc (w.alloc (.cells #[] e))]; exact Nat.lt_succ_self _) (fun e => ?_))
   simp [Value.ownBlock, size_alloc] at e
 ·have kC : KZ w (w.alloc (.cells news.toArray e)) := (Kp.refl _ w).alloc _
  refine ow_run (hx a w rfl) (hK _ _ (fun _ => hS _ kC) ?_)
  refine rn_one hi r3 di' (want _ _ gi) (fun K hK => ?_)
  have kA : KZ (w.alloc (.cells news.toArray e)) ((w.alloc (.cells news.toArray e)).alloc (.cells #[] e)) := (Kp.refl _ _).alloc _
  have kCA := kC.th kA
  refine ow_run (ex_buildSlice0 _ t e pi ht size hsz' (hz _)) (hK _ _ (fun _ => hS _ kCA) ?_)
  have oA : Or w.heap.size e size ((w.alloc (.cells news.toArray e)).alloc (.cells #[] e)) (.slice (some ⟨(w.alloc (.cells news.toArray e)).heap.size, 0, none⟩) 0 0) 0 [] := Or.fresh _ _ e size kC.size
  rw [set_swap listed (fun e => hij.1 e.symm)]
  refine rn_one hk r4 dk' (want _ _ gk) (fun K hK => ?_)
  obtain ⟨Vk, w2, q1, q2, q3⟩ := run_many (a := (a.put (some dj) (.slice (some ⟨w.heap.size, 0, none⟩) 1 1)).put (some di) (.slice (some ⟨(w.alloc (.cells news.toArray e)).heap.size, 0, none⟩) 0 0)) (w := (w.alloc (.cells news.toArray e)).alloc (.cells #[] e)) (.tmp di) (.tmp src) t pk e size bytes ht hinf hzs hsz hby _ (es _ _ _ (by rw [sz]; exact s1)) oA kCA.size V n xs (by rw [ev _ _ _ _ n4, ev _ _ _ _ n5, hV]) ((hO.keep kC).keep kA) hV0 h1 (by omega)
  have kB := kCA.from (q3.mono (fun k _ hk => oA.new k hk)) (Nat.le_refl _)
  refine ow_run q1 (hK _ _ (fun _ => hS _ kB) ?_)
  rw [set_swap (listed.setIfInBounds i true) (fun e => hij.2 e.symm)]
  refine last (.slice (some ⟨(w.alloc (.cells news.toArray e)).heap.size, 0, none⟩) 0 0) Vk (.slice (some ⟨w.heap.size, 0, none⟩) 1 1) w.heap.size _ _ ?_ rfl q2 ?_ kB
  ·rw [Act.put_comm a _ _ (fun d e1 e2 => n2 (by cases e1; cases e2; rfl)), Act.put_comm (a.put (some di) _) _ _ (fun d e1 e2 => n3 (by cases e1; cases e2; rfl))]
  ·refine rangeAt_keep (rangez (newr w) kA) (q3.block _ (by rw [size_alloc, size_alloc]; omega) (fun e => ?_))
   simp [Value.ownBlock, size_alloc] at e
end
end Go.Proofs.YtkcechpaeilaeaaGreatDoor
namespace Go.Proofs.YtkcechpaeilaeaaGreatDoor
open Go.RowKit
set_option maxRecDepth 20000
theorem rcut_to {l x y : List UInt8} (h1 : wd l = x) (h2 : rs l = y) (hl : l.length < 70000) (w : World) : Calls Tryz.prog 53 #[.string ⟨l.toArray⟩] w fun e w' => (∃ b, e = .returned (.tuple #[.string ⟨x.toArray⟩, .string ⟨y.toArray⟩, .bool b])) ∧ KZ w w' := by
 subst h1 h2; exact rcut_at l (by omega) w
theorem dig_to {s : List UInt8} {v : Int} (h : dig s = v) (hs : s.length < 70000) (w : World) : Calls Tryz.prog 54 #[.string ⟨s.toArray⟩] w fun e w' => e = .returned (.int .i64 v) ∧ w = w' := by
 subst h; exact dig_at s (by omega) w
theorem rname_j {j : Int} (h1 : 1 ≤ j) (h2 : j ≤ 14) (w : World) : Calls Tryz.prog 45 #[.int .i64 j] w fun e w' => e = .returned (.string ⟨(nm j).toArray⟩) ∧ KZ w w' := rname_d h1 h2 w
theorem rs_lt {l : List UInt8} (h : l ≠ []) : (rs l).length < l.length := by
 rcases wd_split l with ⟨_, _, h3⟩ | ⟨_, h2⟩
 ·rw [h3]
  exact List.length_pos_iff.2 h
 ·have := congrArg List.length h2
  rw [List.length_append, List.length_cons] at this
  omega
theorem picks_nil (f : Nat) : picks f [] = some [] := by
 cases f <;> simp [picks]
theorem picks_bad {f : Nat} {r : List UInt8} (hr : r ≠ []) (h : dig (wd r) < 0 ∨ 255 < dig (wd r)) : picks (f + 1) r = none := by rw [picks, if_neg hr, if_pos h]
theorem picks_good {f : Nat} {r : List UInt8} (hr : r ≠ []) (h : ¬ (dig (wd r) < 0 ∨ 255 < dig (wd r))) : picks (f + 1) r = (picks f (rs r)).map ((dig (wd r)).toNat.toUInt8 :: ·) := by rw [picks, if_neg hr, if_neg h]
structure Pr (R r q : List UInt8) : Prop where
 most : q.length ≤ 201
 is : picks 201 R = (picks (201 - q.length) r).map (q ++ ·)
theorem Pr.start (R : List UInt8) : Pr R R [] := ⟨by simp, by simp⟩
theorem Pr.done {R r q : List UInt8} (h : Pr R r q) (e : r = [] ∨ q.length = 201) : picks 201 R = some q := by
 rw [h.is]
 rcases e with rfl | e
 ·rw [picks_nil]; simp
 ·rw [e]; simp [picks]
theorem Pr.bad {R r q : List UInt8} (h : Pr R r q) (hr : r ≠ []) (hq : q.length ≤ 200) (hd : dig (wd r) < 0 ∨ 255 < dig (wd r)) : picks 201 R = none := by
 rw [h.is, show 201 - q.length = (200 - q.length) + 1 by omega, picks_bad hr hd]
 rfl
theorem Pr.next {R r q : List UInt8} (h : Pr R r q) (hr : r ≠ []) (hq : q.length ≤ 200) (hd : ¬ (dig (wd r) < 0 ∨ 255 < dig (wd r))) : Pr R (rs r) (q ++ [(dig (wd r)).toNat.toUInt8]) := by
 refine ⟨by simp; omega, ?_⟩
 rw [h.is, show 201 - q.length = (200 - q.length) + 1 by omega, picks_good hr hd, List.length_append, List.length_cons, List.length_nil, show 201 - (q.length + (0 + 1)) = 200 - q.length by omega]
 cases picks (200 - q.length) (rs r) <;> simp
def lenOf : Value → Nat
 | .string s => s.size
 | _ => 0
theorem lenOf_S (l : List UInt8) : lenOf (.string ⟨l.toArray⟩) = l.length := sz l
theorem readR_12 {d : Int} {r p : List UInt8} (h1 : hk d = false) (h2 : hn d = false) (h3 : ht d = false) (hd : decide (d = 12) = true) (hp : picks 201 r = some p) : readR d r = some ⟨d, [], [], 0, p⟩ := by
 have hd := of_decide_eq_true hd
 simp only [readR, h1, h2, h3, Bool.false_eq_true, if_false]
 rw [if_pos hd, hp]
 rfl
theorem readR_12n {d : Int} {r : List UInt8} (h1 : hk d = false) (h2 : hn d = false) (h3 : ht d = false) (hd : decide (d = 12) = true) (hp : picks 201 r = none) : readR d r = none := by
 have hd := of_decide_eq_true hd
 simp only [readR, h1, h2, h3, Bool.false_eq_true, if_false]
 rw [if_pos hd, hp]
 rfl
structure Hw (w w4 : World) (Z B : Nat) (d : Int) (q q2 : List UInt8) (Ap A2 : Option Addr) (cp c2 : Nat) : Prop where
 av : Av w w4 Z B (.int .i64 d) (.string ⟨([] : List UInt8).toArray⟩) (.slice none ([] : List UInt8).length 0) (.int .i64 0) (.slice Ap q.length cp)
 op : Ob (B + 1) w4 (.slice A2 q2.length c2) (ints q2)
theorem Aw.grow {w w3 w4 : World} {Z B : Nat} {d : Int} {q : List UInt8} {Ap : Option Addr} {cp : Nat} (h : Aw w w3 Z B d [] [] 0 q none 0 Ap cp) {A2 : Option Addr} {c2 : Nat} {q2 : List UInt8} (ho : Ob (B + 1) w4 (.slice A2 q2.length c2) (ints q2)) (hb : Below (B + 1) w3 w4) : Hw w w4 Z B d q q2 Ap A2 cp c2 := by
 have h0 := h.av.hz
 have h1 := h.av.ne
 refine ⟨⟨?_, (hb.block Z (by omega)).trans h.av.zero, (hb.block B (by omega)).trans h.av.act, h.av.hz, h.av.ne⟩, ho⟩
 exact h.av.old.trans ⟨hb.os, hb.tape, hb.output, hb.size, fun k hk => hb.block k (by omega)⟩
theorem Aw.size1 {w w3 : World} {Z B : Nat} {d : Int} {q : List UInt8} {Ap : Option Addr} {cp : Nat} (h : Aw w w3 Z B d [] [] 0 q none 0 Ap cp) : B + 1 ≤ w3.heap.size := h.av.lt
end Go.Proofs.YtkcechpaeilaeaaGreatDoor
