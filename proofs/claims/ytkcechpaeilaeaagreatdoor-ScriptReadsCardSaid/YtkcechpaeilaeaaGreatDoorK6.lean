/- Joined out of: Q3 Q4 Q5. -/
import Derived.Test.YtkcechpaeilaeaaGreatDoorK3
import Derived.Test.YtkcechpaeilaeaaGreatDoorK4
import Derived.Test.YtkcechpaeilaeaaGreatDoorK1
set_option linter.unusedVariables false
set_option linter.unusedSimpArgs false
namespace Go.Proofs.YtkcechpaeilaeaaGreatDoor
open Go.RowKit
set_option maxRecDepth 100000
theorem wbyte_n {w : World} {b : Nat} {l : List UInt8} (h : Bd w b l) (n : Int) (c : UInt8) (hn : n = (c.toNat : Int)) (hl : l.length < 1000000000) : Calls Tryz.prog 59 #[.pointer (some ⟨b, 0, none⟩), .int .u8 n] w fun e w' => e = .returned .nilIface ∧ Bd w' b (l ++ [c]) ∧ Wr b w w' := by
 subst hn; exact wbyte_at h c hl
theorem hexs_at (n : Nat) (h : n < 16) : hexl[n]? = some (hxd n).toUInt8 := by
 have : ∀ n, n < 16 → hexl[n]? = some (hxd n).toUInt8 := by decide
 exact this n h
theorem Bs.frame {w wr : World} {v : Value} {l : List Int} (h : Bs w v l) (hb : Below w.heap.size w wr) : Bs wr v l := h.keep (fun b hb' _ => hb.block b hb')
set_option maxHeartbeats 1000000 in
theorem quote_at {w : World} {v : Value} {l : List UInt8} (h : Bs w v (ints l)) (bl : Bool) (hl : l.length < 100000000) : Calls Tryz.prog 17 #[v, .bool bl] w fun e w' => e = .returned (.string ⟨(quote l bl).toArray⟩) ∧ KZ w w' := by
 have H := Hd.mk h
 obtain ⟨A, cp, rfl, hc, hr⟩ := h
 rw [ints_length] at hc H ⊢
 have hL : (l.length : Int) < 100000000 := by omega
 clear hr hc hl
 go_enter Tryz.func17, Tryz.ntmps17
 go_wp2_with fail
 go_loopw [10] (fun v10 wr => ∃ k : Nat, v10 = .int .i64 k ∧ (k : Int) ≤ (l.length : Int) ∧ Hd (Bd wr w.heap.size (quote (l.take k) bl) ∧ Below w.heap.size w wr)) (fun v10 _ => l.length - (intOf v10).toNat)
 case atStart => exact ⟨0, rfl, by omega, ⟨by simpa [quote] using Bd.fresh w, (Below.refl _ w).alloc (Nat.le_refl _) _⟩⟩
 case round =>
  obtain ⟨k, rfl, hk, HH⟩ := hrel
  by_cases hlt : k < l.length
  ·have hlt2 : (k : Int) < (l.length : Int) := by omega
   have hql : Hd ((quote (l.take k) bl).length + 10 < 1000000000) := ⟨by
    have := quote_length (l.take k) bl
    have := List.length_take_le k l
    omega⟩
   have hq := Hd.mk (quote_take hlt bl)
   obtain ⟨A', cp', hA, hc', hr⟩ := H.out.frame HH.out.2
   injection hA with hA1 hA2 hA3
   subst hA1 hA3
   clear hA2 hc'
   obtain ⟨b, o, rfl, hc1⟩ : ∃ b o, A = some ⟨b, o, none⟩ ∧ wr.cell? ⟨b, o + k, none⟩ = some (.int .u8 (l[k].toNat : Int)) := by
    rcases hr with e | ⟨b, o, e, h⟩
    ·have : (ints l).length = 0 := by rw [e]; rfl
     rw [ints_length] at this
     omega
    ·exact ⟨b, o, e, h k _ (ints_get l k hlt)⟩
   generalize l[k] = c at *
   clear hr
   cases hp : pln c.toNat bl
   ·have hp := Hd.mk hp
    have hc256 := c.toNat_lt
    have hc2 : Hd (c.toNat < 256) := ⟨hc256⟩
    obtain ⟨x, h16, hx⟩ : ∃ x, Hd (hexl[c.toNat / 16]? = some x) ∧ Hd (x = (hxd (c.toNat / 16)).toUInt8) := ⟨_, ⟨hexs_at (c.toNat / 16) (by omega)⟩, ⟨rfl⟩⟩
    obtain ⟨y, h15, hy⟩ : ∃ x, Hd (hexl[c.toNat % 16]? = some x) ∧ Hd (x = (hxd (c.toNat % 16)).toUInt8) := ⟨_, ⟨hexs_at (c.toNat % 16) (by omega)⟩, ⟨rfl⟩⟩
    clear hc256
    go_wp2_with (first | (go_at_call 55; with_reducible refine (plain_at c.toNat bl _).mono ?_; rw [hp.out]; rintro e w' ⟨rfl, rfl⟩; dsimp only) | (go_at_call 59; with_reducible refine (wbyte_n HH.out.1 92 92 rfl (by have := hql.out; omega)).mono ?_; rintro e w1 ⟨rfl, hb1, hw1⟩; dsimp only) | (with_reducible refine wl_run rfl (ex_and15 _ 5 5 (.tmp 24) (.const (.int .u8 15)) rfl c.toNat hc2.out rfl rfl) ?_) | (with_reducible refine wl_run rfl (ex_sidx _ 9 (.const (.string ⟨hexl.toArray⟩)) (.tmp 21) rfl rfl .u8 hexl (c.toNat / 16) _ h16.out _ (by omega) rfl rfl) ?_) | (with_reducible refine wl_run rfl (ex_sidx _ 9 (.const (.string ⟨hexl.toArray⟩)) (.tmp 25) rfl rfl .u8 hexl (c.toNat % 16) _ h15.out _ (by omega) rfl rfl) ?_) | (go_at_call 59; with_reducible refine (wbyte_n hb1 _ x rfl (by have := hql.out; simp only [List.length_append, List.length_cons, List.length_nil]; omega)).mono ?_; rintro e w2 ⟨rfl, hb2, hw2⟩; dsimp only) | (go_at_call 59; with_reducible refine (wbyte_n hb2 _ y rfl (by have := hql.out; simp only [List.length_append, List.length_cons, List.length_nil]; omega)).mono ?_; rintro e w3 ⟨rfl, hb3, hw3⟩; dsimp only))
    refine ⟨⟨k + 1, by go_num, by omega, ⟨?_, HH.out.2.trans (hw1.trans (hw2.trans hw3)).below⟩⟩, by simp [intOf]; omega⟩
    rw [hq.out, qone, hp.out, if_neg (by decide), ← hx.out, ← hy.out]
    simpa [List.append_assoc] using hb3
   ·have hp := Hd.mk hp
    go_wp2_with (first | (go_at_call 55; with_reducible refine (plain_at c.toNat bl _).mono ?_; rw [hp.out]; rintro e w' ⟨rfl, rfl⟩; dsimp only) | (go_at_call 59; with_reducible refine (wbyte_at HH.out.1 c (by have := hql.out; omega)).mono ?_; rintro e w' ⟨rfl, hb, hw⟩))
    refine ⟨⟨k + 1, by go_num, by omega, ⟨?_, HH.out.2.trans hw.below⟩⟩, by simp [intOf]; omega⟩
    rw [hq.out, qone, if_pos hp.out]
    exact hb
  ·have hk2 : (k : Int) = l.length := by omega
   have hk3 : k = l.length := by omega
   have hb : Hd (Bd wr w.heap.size (quote l bl) ∧ Below w.heap.size w wr) := ⟨by
    have := HH.out
    rw [hk3, List.take_length] at this
    exact this⟩
   clear hk3 HH
   go_wp2_with (go_at_call 36; with_reducible refine (bstr_at hb.out.1).mono ?_; rintro e w' ⟨rfl, hb1, hw1⟩)
   go_ret
   exact ⟨rfl, Kp.of_below (hb.out.2.trans hw1.below) _⟩
set_option maxHeartbeats 2000000 in
theorem rquote_at {w : World} {v : Value} {l : List UInt8} (h : Bs w v (ints l)) (bl : Bool) (hl : l.length < 100000000) : Calls Tryz.prog 18 #[v, .bool bl] w fun e w' => e = .returned (.string ⟨(quote l bl).toArray⟩) ∧ KZ w w' := by
 have H := Hd.mk h
 obtain ⟨A, cp, rfl, hc, hr⟩ := h
 rw [ints_length] at hc H ⊢
 have hL : (l.length : Int) < 100000000 := by omega
 clear hr hc hl
 go_enter Tryz.func18, Tryz.ntmps18
 go_wp2_with fail
 go_loopw [5, 6] (fun v5 v6 wr => ∃ k : Nat, v6 = .int .i64 k ∧ (k : Int) ≤ (l.length : Int) ∧ Hd (Ob w.heap.size wr v5 (ints (quote (l.take k) bl)) ∧ Below w.heap.size w wr)) (fun _ v6 _ => l.length - (intOf v6).toNat)
 case atStart => exact ⟨0, rfl, by omega, ⟨Ob.fresh w _ (Nat.le_refl _), (Below.refl _ w).alloc (Nat.le_refl _) _⟩⟩
 case round =>
  obtain ⟨k, rfl, hk, HH⟩ := hrel
  by_cases hlt : k < l.length
  ·have hlt2 : (k : Int) < (l.length : Int) := by omega
   have hql : Hd ((ints (quote (l.take k) bl)).length + 10 < 1000000000) := ⟨by
    have := quote_length (l.take k) bl
    have := List.length_take_le k l
    rw [ints_length]
    omega⟩
   have hq := Hd.mk (quote_take hlt bl)
   obtain ⟨b, o, rfl, hc0, hbw⟩ := bs_at H.out hlt
   have hc1 := bsee HH.out.2 hc0 hbw
   have hbw := Hd.mk hbw
   have hc0 := Hd.mk hc0
   generalize l[k] = c at *
   have hsz := Hd.mk HH.out.2.size
   cases hp : pln c.toNat bl
   ·have hp := Hd.mk hp
    have hc256 := c.toNat_lt
    obtain ⟨x, hx⟩ : ∃ x, Hd (x = (hxd (c.toNat / 16)).toUInt8 ∧ (x.toNat : Int) = (hxd (c.toNat / 16) : Int)) := ⟨_, ⟨rfl, by rw [hxd_u8 (by omega)]⟩⟩
    obtain ⟨y, hy⟩ : ∃ x, Hd (x = (hxd (c.toNat % 16)).toUInt8 ∧ (x.toNat : Int) = (hxd (c.toNat % 16) : Int)) := ⟨_, ⟨rfl, by rw [hxd_u8 (by omega)]⟩⟩
    go_wp2_with (first | (go_at_call 60; with_reducible refine (plain_ref c.toNat bl _).mono ?_; rw [hp.out]; rintro e w' ⟨rfl, rfl⟩; dsimp only))
    have hS : Hd ((fun W : World => W.cell? ⟨b, o + k, none⟩ = some (.int .u8 ((c.toNat : Nat) : Int))) wr.drew) := ⟨hc1⟩
    refine rn_begin (fun W : World => W.cell? ⟨b, o + k, none⟩ = some (.int .u8 ((c.toNat : Nat) : Int))) (List.range 18) (by kernel_rfl) ?_
    refine rnA 0 27 (u5) (rnM rfl rfl) hS.out ?_
    refine rnA 1 28 (.slice (some ⟨b, o, none⟩) l.length cp) (rnM rfl rfl) hS.out ?_
    refine rnA 2 29 (.int .i64 ((k : Nat) : Int)) (rnM rfl rfl) hS.out ?_
    simp only [Act.put, uA, uB, uC]
    refine rnA 3 30 (.pointer (some ⟨b, o + k, none⟩)) (erI 22 5 _ _ rfl 1 k U22 b o _ _ (o + k)) hS.out ?_
    refine rnA 4 31 (.int .u8 ((c.toNat : Nat) : Int)) (fun W hW => ex_load W 5 _ _ rfl ⟨b, o + k, none⟩ U5 rfl rfl (hW)) hS.out ?_
    refine rnA 5 32 (.int .i64 ((c.toNat : Nat) : Int)) (fun W hW => ex_toi64 W 5 3 _ rfl (by kernel_rfl) U3 .u8 c.toNat (by omega) rfl) hS.out ?_
    simp only [Act.put, uA, uB, uC]
    refine rnA 6 33 (.int .i64 ((c.toNat / 16 : Nat) : Int)) (fun W hW => ex_quo16 W 3 _ _ _ rfl c.toNat (by omega) rfl rfl) hS.out ?_
    refine rnA 8 35 (.slice (some ⟨b, o, none⟩) l.length cp) (rnM rfl rfl) hS.out ?_
    refine rnA 9 36 (.int .i64 ((k : Nat) : Int)) (rnM rfl rfl) hS.out ?_
    simp only [Act.put, uA, uB, uC]
    refine rnA 10 37 (.pointer (some ⟨b, o + k, none⟩)) (erI 22 5 _ _ rfl 1 k U22 b o _ _ (o + k)) hS.out ?_
    refine rnA 11 38 (.int .u8 ((c.toNat : Nat) : Int)) (fun W hW => ex_load W 5 _ _ rfl ⟨b, o + k, none⟩ U5 rfl rfl (hW)) hS.out ?_
    refine rnA 12 39 (.int .i64 ((c.toNat : Nat) : Int)) (fun W hW => ex_toi64 W 5 3 _ rfl (by kernel_rfl) U3 .u8 c.toNat (by omega) rfl) hS.out ?_
    simp only [Act.put, uA, uB, uC]
    refine rnA 13 40 (.int .i64 ((c.toNat % 16 : Nat) : Int)) (fun W hW => ex_rem16 W 3 _ _ _ rfl c.toNat (by omega) rfl rfl) hS.out ?_
    simp only [Act.put, uA, uB, uC]
    have hex : ∀ (n : Nat) (hn : n < 16) (W : World), Calls Tryz.prog 61 [.int .i64 (n : Int)].toArray W fun e w' => e = .returned (.int .u8 (hxd n : Int)) ∧ W = w' := fun n hn W => hex_at n hn W
    refine rn_one (i := 7) (dst := some 34) rfl (by kernel_rfl) rfl rfl (fun K hK => ?_)
    refine ow_call 61 _ _ rfl Tryz.func61 (by kernel_rfl) (by kernel_rfl) [.int .i64 ((c.toNat / 16 : Nat) : Int)] rfl (hex _ (by omega) _) ?_
    rintro e w1 ⟨rfl, rfl⟩
    refine ⟨_, rfl, hK _ _ (fun _ => hS.out) ?_⟩
    clear hK K
    rw [← hx.out.2]
    simp only [Act.put, uA, uB, uC]
    refine rn_one (i := 14) (dst := some 41) rfl (by kernel_rfl) rfl rfl (fun K hK => ?_)
    refine ow_call 61 _ _ rfl Tryz.func61 (by kernel_rfl) (by kernel_rfl) [.int .i64 ((c.toNat % 16 : Nat) : Int)] rfl (hex _ (by omega) _) ?_
    rintro e w1 ⟨rfl, rfl⟩
    refine ⟨_, rfl, hK _ _ (fun _ => hS.out) ?_⟩
    clear hK K hex
    rw [← hy.out.2]
    simp only [Act.put, uA, uB, uC]
    refine rn_one (i := 15) (dst := some 42) rfl (by kernel_rfl) rfl rfl (fun K hK => ?_)
    refine ow_lit3 _ _ _ rfl 92 (x.toNat : Int) (y.toNat : Int) rfl rfl rfl ?_
    intro v1 w1 hv1 hk1
    refine hK _ _ (fun _ => hk1.see hS.out id) ?_
    have hS1 : Hd ((fun W : World => W.cell? ⟨b, o + k, none⟩ = some (.int .u8 ((c.toNat : Nat) : Int))) w1) := ⟨hk1.see hS.out id⟩
    have hv1 := Hd.mk hv1
    have hk1 := Hd.mk hk1
    clear hK K hS
    have hS := hS1
    clear hS1
    simp only [Act.put, uA, uB, uC]
    refine rn_one (i := 16) (dst := some 43) rfl (by kernel_rfl) rfl rfl (fun K hK => ?_)
    refine ow_ob _ _ rfl u5 _ rfl ((HH.out.1.keep ((Kp.refl _ wr).drew)).keep hk1.out) (Nat.le_trans hsz.out hk1.out.size) v1 [92, (x.toNat : Int), (y.toNat : Int)] rfl hv1.out (by have := hql.out; simp only [List.length_cons, List.length_nil]; omega) ?_
    intro v2 w2 hv2 hb2
    have hS2 : w2.cell? ⟨b, o + k, none⟩ = some (.int .u8 ((c.toNat : Nat) : Int)) := by
     exact bsee ((HH.out.2.trans ((((Kp.refl (fun _ => False) wr).drew).th hk1.out).toBelow hsz.out (fun _ h => h.elim))).trans hb2) hc0.out hbw.out
    refine hK _ _ (fun _ => hS2) ?_
    clear hK K hS
    have hS := Hd.mk hS2
    clear hS2
    have hv2 := Hd.mk hv2
    have hb2 := Hd.mk hb2
    simp only [Act.put, uA, uB, uC]
    refine rnA 17 5 (v2) (fun W hW => ex_assign W _ _ rfl rfl) hS.out ?_
    simp only [Act.put, uA, uB, uC]
    refine rn_done (by kernel_rfl) ?_ _
    clear hS
    go_wp2_with fail
    refine ⟨⟨k + 1, by go_num, by omega, ⟨?_, ?_⟩⟩, by simp [intOf]; omega⟩
    ·rw [hq.out, qone, hp.out, if_neg (by decide), ← hx.out.1, ← hy.out.1, ints_append]
     exact hv2.out
    ·refine HH.out.2.trans ?_
     have := ((Kp.refl (fun _ => False) wr).drew).th hk1.out
     exact (this.toBelow hsz.out (fun _ h => h.elim)).trans hb2.out
   ·have hp := Hd.mk hp
    go_wp2_with (first | (go_at_call 60; with_reducible refine (plain_ref c.toNat bl _).mono ?_; rw [hp.out]; rintro e w' ⟨rfl, rfl⟩; dsimp only) | (with_reducible refine wl_lit1 rfl (.tmp 24) rfl (c.toNat : Int) rfl ?_; intro v1 w1 hv1 hk1; have hv1 := Hd.mk hv1; have hk1 := Hd.mk hk1) | (with_reducible refine wl_ob rfl (.tmp 20) (.tmp 25) rfl u5 _ rfl (HH.out.1.keep hk1.out) (Nat.le_trans hsz.out hk1.out.size) v1 [(c.toNat : Int)] rfl hv1.out (by have := hql.out; simp only [List.length_cons, List.length_nil]; omega) ?_; intro v2 w2 hv2 hb2; have hv2 := Hd.mk hv2; have hb2 := Hd.mk hb2))
    refine ⟨⟨k + 1, by go_num, by omega, ⟨?_, ?_⟩⟩, by simp [intOf]; omega⟩
    ·rw [hq.out, qone, if_pos hp.out, ints_append]
     exact hv2.out
    ·refine HH.out.2.trans ?_
     exact (hk1.out.toBelow hsz.out (fun _ h => h.elim)).trans hb2.out
  ·have hk2 : (k : Int) = l.length := by omega
   have hk3 : k = l.length := by omega
   have hb : Hd (Ob w.heap.size wr u5 (ints (quote l bl)) ∧ Below w.heap.size w wr) := ⟨by
    have := HH.out
    rw [hk3, List.take_length] at this
    exact this⟩
   clear hk3 HH
   go_wp2_with (first | (with_reducible refine wl_run rfl (ex_tostr _ 22 9 5 (.tmp 44) rfl U22 U5 U9 u5 (quote l bl) hb.out.1.bs rfl) ?_))
   go_ret
   exact ⟨rfl, Kp.of_below hb.out.2 _⟩
theorem uq_nil (bl : Bool) (l : List UInt8) (k : Nat) (h : l.length ≤ k) : uq bl (l.drop k) = some [] := by rw [List.drop_of_length_le h]; rfl
theorem uq_p {bl : Bool} {l : List UInt8} {k : Nat} {c : UInt8} (h : l[k]? = some c) (hp : pln c.toNat bl = true) : uq bl (l.drop k) = (uq bl (l.drop (k + 1))).map (c :: ·) := by
 obtain ⟨h1, rfl⟩ := List.getElem?_eq_some_iff.1 h
 rw [List.drop_eq_getElem_cons h1, uq_pln _ _ hp]
theorem uq_b1 {bl : Bool} {l : List UInt8} {k : Nat} {c : UInt8} (h : l[k]? = some c) (hp : pln c.toNat bl = false) (hc : c ≠ 92) : uq bl (l.drop k) = none := by
 obtain ⟨h1, rfl⟩ := List.getElem?_eq_some_iff.1 h
 rw [List.drop_eq_getElem_cons h1, uq.eq_def]
 simp only [hp, Bool.false_eq_true, if_false]
 split
 ·rw [if_neg (fun e => hc e.1)]
 ·rfl
theorem uq_b2 {bl : Bool} {l : List UInt8} {k : Nat} {c : UInt8} (h : l[k]? = some c) (hp : pln c.toNat bl = false) (hl : l.length < k + 3) : uq bl (l.drop k) = none := by
 obtain ⟨h1, rfl⟩ := List.getElem?_eq_some_iff.1 h
 rw [List.drop_eq_getElem_cons h1, uq.eq_def]
 simp only [hp, Bool.false_eq_true, if_false]
 split
 ·rename_i x y z e
  have := congrArg List.length e
  simp at this
  omega
 ·rfl
theorem uq_3 {bl : Bool} {l : List UInt8} {k : Nat} {h m : UInt8} (hc : l[k]? = some 92) (hh : l[k + 1]? = some h) (hm : l[k + 2]? = some m) :
  uq bl (l.drop k) = if vld h.toNat < 16 ∧ vld m.toNat < 16 ∧ pln (hl h m) bl = false then (uq bl (l.drop (k + 3))).map ((hl h m).toUInt8 :: ·) else none := by
 obtain ⟨h1, e1⟩ := List.getElem?_eq_some_iff.1 hc
 obtain ⟨h2, rfl⟩ := List.getElem?_eq_some_iff.1 hh
 obtain ⟨h3, rfl⟩ := List.getElem?_eq_some_iff.1 hm
 rw [List.drop_eq_getElem_cons h1, List.drop_eq_getElem_cons h2, List.drop_eq_getElem_cons h3, uq.eq_def, e1]
 simp only [show (92 : UInt8).toNat = 92 from rfl, pln_92, Bool.false_eq_true, if_false, true_and]
theorem index_hex (c : UInt8) : Lib.indexByte hexl c = if vld c.toNat < 16 then (vld c.toNat : Int) else -1 := by
 have h : ∀ n, n < 256 → Lib.indexByte hexl (UInt8.ofNat n) = if vld n < 16 then (vld n : Int) else -1 := by decide +kernel
 have := h c.toNat c.toNat_lt
 simpa using this
theorem plain_92 (bl : Bool) (w : World) : Calls Tryz.prog 55 #[.int .u8 92, .bool bl] w fun e w' => e = .returned (.bool false) ∧ w = w' := by
 have := plain_at 92 bl w
 rw [pln_92] at this
 exact this
theorem plain_z (z : Int) (n : Nat) (hz : z = (n : Int)) (bl : Bool) (w : World) : Calls Tryz.prog 55 #[.int .u8 z, .bool bl] w fun e w' => e = .returned (.bool (pln n bl)) ∧ w = w' := by
 subst hz; exact plain_at n bl w
theorem or_hl {h m : Nat} (hh : h < 16) (hm : m < 16) : bits .or .i64 ((h : Int) * 16) (m : Int) % 256 = ((16 * h + m : Nat) : Int) := by
 have := or16 h hh m hm
 rw [show ((16 * h : Nat) : Int) = (h : Int) * 16 by omega] at this
 rw [this]
 omega
theorem indexByte_at (c : UInt8) (w : World) : Calls Tryz.prog 56 [.string ⟨hexl.toArray⟩, .int .u8 (c.toNat : Int)].toArray w fun e w' => e = .returned (.int .i64 (if vld c.toNat < 16 then (vld c.toNat : Int) else -1)) ∧ w = w' := by
 refine (Tryz.strings_IndexByte ⟨hexl.toArray⟩ (c.toNat : Int) w).mono ?_
 rintro e w' ⟨rfl, rfl⟩
 rw [show ((c.toNat : Int)).toNat.toUInt8 = c by simp, ← index_hex]
 exact ⟨rfl, rfl⟩
def UqR (w w' : World) (r : Option (List UInt8)) (e : Ending) : Prop :=
 (match r with | some b => ∃ v, e = .returned (.tuple #[v, .int .i64 0]) ∧ Ob w.heap.size w' v (ints b) | none => e = .returned (.tuple #[.slice none 0 0, .int .i64 270])) ∧ KZ w w'
theorem UqR.none {w w' : World} {r : Option (List UInt8)} (h : r = none) (hb : Below w.heap.size w w') : UqR w w' r (.returned (.tuple #[.slice none 0 0, .int .i64 270])) := by
 subst h; exact ⟨rfl, Kp.of_below hb _⟩
def Uqi (w wr : World) (bl : Bool) (l : List UInt8) (k : Nat) (v : Value) : Prop := ∃ out, Ob w.heap.size wr v (ints out) ∧ Below w.heap.size w wr ∧ uq bl l = (uq bl (l.drop k)).map (out ++ ·) ∧ out.length ≤ k
theorem Uqi.none {w wr : World} {bl : Bool} {l : List UInt8} {k : Nat} {v : Value} (h : Uqi w wr bl l k v) (hn : uq bl (l.drop k) = none) : UqR w wr (uq bl l) (.returned (.tuple #[.slice none 0 0, .int .i64 270])) := by
 obtain ⟨out, h1, h2, h3, h4⟩ := h
 rw [hn] at h3
 exact .none h3 h2
theorem Uqi.drew {w wr : World} {bl : Bool} {l : List UInt8} {k : Nat} {v : Value} (h : Uqi w wr bl l k v) : Uqi w wr.drew bl l k v := by
 obtain ⟨out, h1, h2, h3, h4⟩ := h
 exact ⟨out, h1.keep ((Kp.refl _ wr).drew), h2.trans (((Kp.refl (fun _ => False) wr).drew).toBelow h2.size (fun _ h => h.elim)), h3, h4⟩
theorem Uqi.more {w wr wr' : World} {bl : Bool} {l : List UInt8} {k : Nat} {v' : Value} {out : List UInt8} {c : UInt8} {d : Nat} (h2 : Below w.heap.size w wr) (h3 : uq bl l = (uq bl (l.drop k)).map (out ++ ·)) (h4 : out.length ≤ k)
  (hs : uq bl (l.drop k) = (uq bl (l.drop d)).map (c :: ·)) (hd : k < d) (ho : Ob w.heap.size wr' v' (ints out ++ [(c.toNat : Int)])) (hb : Below w.heap.size wr wr') : Uqi w wr' bl l d v' := by
 refine ⟨out ++ [c], by rw [ints_append]; exact ho, h2.trans hb, ?_, by simp; omega⟩
 rw [h3, hs]
 cases uq bl (l.drop d) <;> simp
set_option maxHeartbeats 2000000 in
theorem unquote_at {w : World} (l : List UInt8) (bl : Bool) (hl : l.length < 100000000) : Calls Tryz.prog 14 #[.string ⟨l.toArray⟩, .bool bl] w fun e w' => UqR w w' (uq bl l) e := by
 have hL : (l.length : Int) < 100000000 := by omega
 clear hl
 go_enter Tryz.func14, Tryz.ntmps14
 go_wp2_with fail
 go_loopw [6, 7] (fun v6 v7 wr => ∃ k : Nat, v7 = .int .i64 k ∧ (k : Int) ≤ (l.length : Int) ∧ Hd (Uqi w wr bl l k v6)) (fun _ v7 _ => l.length - (intOf v7).toNat)
 case atStart => exact ⟨0, rfl, by omega, ⟨[], Ob.nil _ _, Below.refl _ _, by simp, Nat.le_refl _⟩⟩
 case round =>
  obtain ⟨k, rfl, hk, HH⟩ := hrel
  by_cases hlt : k < l.length
  ·have hlt2 : (k : Int) < (l.length : Int) := by omega
   obtain ⟨c, hck⟩ : ∃ c, Hd (l[k]? = some c) := ⟨_, ⟨List.getElem?_eq_getElem hlt⟩⟩
   cases hp : pln c.toNat bl
   ·have hp := Hd.mk hp
    by_cases h92 : c = 92
    ·subst h92
     by_cases h3 : k + 3 ≤ l.length
     ·have h33 : ¬ ((l.length : Int) - k < 3) := by omega
      obtain ⟨h, hhk⟩ : ∃ c, Hd (l[k + 1]? = some c) := ⟨_, ⟨List.getElem?_eq_getElem (by omega)⟩⟩
      obtain ⟨m, hmk⟩ : ∃ c, Hd (l[k + 2]? = some c) := ⟨_, ⟨List.getElem?_eq_getElem (by omega)⟩⟩
      have hu := Hd.mk (uq_3 (bl := bl) hck.out hhk.out hmk.out)
      obtain ⟨zh, hzh⟩ : ∃ z : Int, Hd (z = if vld h.toNat < 16 then (vld h.toNat : Int) else -1) := ⟨_, ⟨rfl⟩⟩
      obtain ⟨zm, hzm⟩ : ∃ z : Int, Hd (z = if vld m.toNat < 16 then (vld m.toNat : Int) else -1) := ⟨_, ⟨rfl⟩⟩
      go_wp2_with (first | (go_at_call 55; with_reducible refine (plain_92 bl _).mono ?_; rintro e w' ⟨rfl, rfl⟩; dsimp only) | (with_reducible refine wl_run rfl (ex_sidx _ 9 _ _ rfl rfl .i64 l k 92 hck.out _ rfl rfl rfl) ?_) | (with_reducible refine wl_run rfl (ex_slen _ 9 _ rfl rfl l rfl) ?_))
      have hS : Hd ((fun W : World => True) wr.drew) := ⟨trivial⟩
      refine rn_begin (fun W : World => True) (List.range 12) (by kernel_rfl) ?_
      refine rnA 0 38 (.string ⟨(l).toArray⟩) (rnM rfl rfl) hS.out ?_
      refine rnA 1 39 (.int .i64 ((k : Nat) : Int)) (rnM rfl rfl) hS.out ?_
      refine rnA 2 40 (.int .i64 ((k + 1 : Nat) : Int)) (fun W hW => er_add W 3 _ _ _ rfl k 1 (k + 1) (by first | rfl | omega) rfl rfl (by omega)) hS.out ?_
      simp only [Act.put, uA, uB, uC]
      refine rnA 3 41 (.int .u8 ((h.toNat : Nat) : Int)) (fun W hW => ex_sidx W 9 _ _ rfl U9 .i64 l (k + 1) h (hhk.out) _ (by first | rfl | omega) rfl rfl) hS.out ?_
      refine rnA 5 43 (.string ⟨(l).toArray⟩) (rnM rfl rfl) hS.out ?_
      refine rnA 6 44 (.int .i64 ((k : Nat) : Int)) (rnM rfl rfl) hS.out ?_
      simp only [Act.put, uA, uB, uC]
      refine rnA 7 45 (.int .i64 ((k + 2 : Nat) : Int)) (fun W hW => er_add W 3 _ _ _ rfl k 2 (k + 2) (by first | rfl | omega) rfl rfl (by omega)) hS.out ?_
      refine rnA 8 46 (.int .u8 ((m.toNat : Nat) : Int)) (fun W hW => ex_sidx W 9 _ _ rfl U9 .i64 l (k + 2) m (hmk.out) _ (by first | rfl | omega) rfl rfl) hS.out ?_
      simp only [Act.put, uA, uB, uC]
      refine rn_one (i := 4) (dst := some 42) rfl (by kernel_rfl) rfl rfl (fun K hK => ?_)
      refine ow_call 56 _ _ rfl Tryz.func56 (by kernel_rfl) (by kernel_rfl) [.string ⟨hexl.toArray⟩, .int .u8 (h.toNat : Int)] rfl (indexByte_at h _) ?_
      rintro e w1 ⟨rfl, rfl⟩
      refine ⟨_, rfl, hK _ _ (fun _ => trivial) ?_⟩
      clear hK K
      rw [← hzh.out]
      simp only [Act.put, uA, uB, uC]
      refine rn_one (i := 9) (dst := some 47) rfl (by kernel_rfl) rfl rfl (fun K hK => ?_)
      refine ow_call 56 _ _ rfl Tryz.func56 (by kernel_rfl) (by kernel_rfl) [.string ⟨hexl.toArray⟩, .int .u8 (m.toNat : Int)] rfl (indexByte_at m _) ?_
      rintro e w1 ⟨rfl, rfl⟩
      refine ⟨_, rfl, hK _ _ (fun _ => trivial) ?_⟩
      clear hK K
      rw [← hzm.out]
      simp only [Act.put, uA, uB, uC]
      refine rnA 10 8 (.int .i64 (zh)) (fun W hW => ex_assign W _ _ rfl rfl) hS.out ?_
      refine rnA 11 9 (.int .i64 (zm)) (fun W hW => ex_assign W _ _ rfl rfl) hS.out ?_
      simp only [Act.put, uA, uB, uC]
      refine rn_done (by kernel_rfl) ?_ _
      clear hS
      by_cases v1 : vld h.toNat < 16
      ·by_cases v2 : vld m.toNat < 16
       ·have hzh := hzh.out
        have hzm := hzm.out
        rw [if_pos v1] at hzh
        rw [if_pos v2] at hzm
        subst hzh hzm
        have hlv : hl h m = 16 * vld h.toNat + vld m.toNat := rfl
        rw [hlv] at hu
        have hor := Hd.mk (or_hl v1 v2)
        have hlt3 : 16 * vld h.toNat + vld m.toNat < 256 := by omega
        generalize hvh : vld h.toNat = vh at *
        generalize hvm : vld m.toNat = vm at *
        have v1i : (vh : Int) < 16 := by omega
        have v2i : (vm : Int) < 16 := by omega
        have n1 : Hd (decide ((vh : Int) < 0) = false) := ⟨decide_eq_false (by omega)⟩
        have n2 : Hd (decide ((vm : Int) < 0) = false) := ⟨decide_eq_false (by omega)⟩
        have hvh := Hd.mk hvh
        have hvm := Hd.mk hvm
        have hv12 := Hd.mk (And.intro v1 v2)
        have h3i : (k : Int) + 3 ≤ l.length := by omega
        have hb8 : Hd (((16 * vh + vm : Nat).toUInt8.toNat : Int) = ((16 * vh + vm : Nat) : Int)) := ⟨by simp; omega⟩
        clear v1 v2 hlv hlt3 h3
        cases hp2 : pln (16 * vh + vm) bl
        ·have hp2 := Hd.mk hp2
         obtain ⟨out, ho, hb, huu, hlen⟩ := HH.out
         have ho := Hd.mk ho
         have huu := Hd.mk huu
         have hsz := Hd.mk hb.size
         have hb := Hd.mk hb
         go_wp2_with (first | (rewrite [n1.out]) | (rewrite [n2.out]) | (go_at_call 55; with_reducible refine (plain_z _ _ hor.out bl _).mono ?_; rw [hp2.out]; rintro e w' ⟨rfl, rfl⟩; dsimp only) | ((with_reducible refine wl_lit1 rfl (.tmp 68) rfl _ rfl ?_); intro v1 w1 hv1 hk1; have ho1 := Hd.mk ((ho.out.keep ((Kp.refl _ wr).drew)).keep hk1); have hs1 : Hd (w.heap.size ≤ w1.heap.size) := ⟨Nat.le_trans hsz.out hk1.size⟩; have hb1 : Hd (Below w.heap.size wr w1) := ⟨(((Kp.refl (fun _ => False) wr).drew).th hk1).toBelow hsz.out (fun _ h => h.elim)⟩; rw [hor.out] at hv1; have hv1 := Hd.mk hv1) | (with_reducible refine wl_ob rfl (.tmp 63) (.tmp 69) rfl u6 _ rfl ho1.out hs1.out v1 [_] rfl hv1.out (by rw [ints_length]; simp only [List.length_cons, List.length_nil]; omega) ?_; intro v2 w2 hv2 hb2; have hv2 := Hd.mk hv2; have hb2 := Hd.mk hb2))
         refine ⟨⟨k + 3, by go_num, by omega, ⟨Uqi.more (c := (16 * vh + vm).toUInt8) hb.out huu.out hlen ?_ (by omega) (by rw [hb8.out]; exact hv2.out) (hb1.out.trans hb2.out)⟩⟩, by simp [intOf]; omega⟩
         rw [hu.out, if_pos ⟨hv12.out.1, hv12.out.2, hp2.out⟩]
        ·have hp2 := Hd.mk hp2
         go_wp2_with (first | (rewrite [n1.out]) | (rewrite [n2.out]) | (go_at_call 55; with_reducible refine (plain_z _ _ hor.out bl _).mono ?_; rw [hp2.out]; rintro e w' ⟨rfl, rfl⟩; dsimp only))
         go_ret2
         exact HH.out.drew.none (by rw [hu.out, hp2.out]; simp)
       ·have hzh := hzh.out
        have hzm := hzm.out
        rw [if_pos v1] at hzh
        rw [if_neg v2] at hzm
        have n1 : (0 : Int) ≤ zh := by omega
        have n2 : zm < 0 := by omega
        clear hzh hzm
        go_wp2_with fail
        go_ret2
        exact HH.out.drew.none (by rw [hu.out, if_neg (fun e => v2 e.2.1)])
      ·have hzh := hzh.out
       rw [if_neg v1] at hzh
       have n1 : zh < 0 := by omega
       clear hzh
       go_wp2_with fail
       go_ret2
       exact HH.out.drew.none (by rw [hu.out, if_neg (fun e => v1 e.1)])
     ·have h33 : ((l.length : Int) - k < 3) := by omega
      have hn := Hd.mk (uq_b2 hck.out hp.out (by omega))
      clear h3
      go_wp2_with (first | (go_at_call 55; with_reducible refine (plain_92 bl _).mono ?_; rintro e w' ⟨rfl, rfl⟩; dsimp only) | (with_reducible refine wl_run rfl (ex_sidx _ 9 _ _ rfl rfl .i64 l k 92 hck.out _ rfl rfl rfl) ?_) | (with_reducible refine wl_run rfl (ex_slen _ 9 _ rfl rfl l rfl) ?_))
      go_ret2
      exact HH.out.none hn.out
    ·have h92i : (c.toNat : Int) ≠ 92 := fun e => h92 (UInt8.toNat_inj.1 (show c.toNat = 92 by omega))
     have hn := Hd.mk (uq_b1 hck.out hp.out h92)
     clear h92
     go_wp2_with (first | (go_at_call 55; with_reducible refine (plain_at c.toNat bl _).mono ?_; rw [hp.out]; rintro e w' ⟨rfl, rfl⟩; dsimp only) | (with_reducible refine wl_run rfl (ex_sidx _ 9 _ _ rfl rfl .i64 l k c hck.out _ rfl rfl rfl) ?_) | (with_reducible refine wl_run rfl (ex_slen _ 9 _ rfl rfl l rfl) ?_))
     go_ret2
     exact HH.out.none hn.out
   ·have hp := Hd.mk hp
    obtain ⟨out, ho, hb, hu, hlen⟩ := HH.out
    have ho := Hd.mk ho
    have hu := Hd.mk hu
    have hsz := Hd.mk hb.size
    have hb := Hd.mk hb
    go_wp2_with (first | (with_reducible refine wl_lit1 rfl (.tmp 24) rfl (c.toNat : Int) rfl ?_; intro v1 w1 hv1 hk1; have hv1 := Hd.mk hv1; have hk1 := Hd.mk hk1) | (with_reducible refine wl_ob rfl (.tmp 21) (.tmp 25) rfl u6 _ rfl (ho.out.keep hk1.out) (Nat.le_trans hsz.out hk1.out.size) v1 [(c.toNat : Int)] rfl hv1.out (by rw [ints_length]; simp only [List.length_cons, List.length_nil]; omega) ?_; intro v2 w2 hv2 hb2; have hv2 := Hd.mk hv2; have hb2 := Hd.mk hb2) | (go_at_call 55; with_reducible refine (plain_at c.toNat bl _).mono ?_; rw [hp.out]; rintro e w' ⟨rfl, rfl⟩; dsimp only) | (with_reducible refine wl_run rfl (ex_sidx _ 9 _ _ rfl rfl .i64 l k c hck.out _ rfl rfl rfl) ?_) | (with_reducible refine wl_run rfl (ex_slen _ 9 _ rfl rfl l rfl) ?_))
    exact ⟨⟨k + 1, by go_num, by omega, ⟨Uqi.more hb.out hu.out hlen (uq_p hck.out hp.out) (by omega) hv2.out ((hk1.out.toBelow hsz.out (fun _ h => h.elim)).trans hb2.out)⟩⟩, by simp [intOf]; omega⟩
  ·have hk2 : (k : Int) = l.length := by omega
   have hn := Hd.mk (uq_nil bl l k (by omega))
   go_wp2_with (first | (with_reducible refine wl_run rfl (ex_slen _ 9 _ rfl rfl l rfl) ?_))
   go_ret2
   obtain ⟨out, ho, hb, hu, hlen⟩ := HH.out
   rw [hn.out] at hu
   rw [hu]
   refine ⟨⟨_, rfl, by simpa using ho⟩, Kp.of_below hb _⟩
end Go.Proofs.YtkcechpaeilaeaaGreatDoor
