/- Quote, as the document has it. -/
import Derived.Test.YtkcechpaeilaeaaGreatDoorOb
import Derived.Test.YtkcechpaeilaeaaGreatDoorQ3
import Derived.Test.YtkcechpaeilaeaaGreatDoorGa
namespace Go.Proofs.YtkcechpaeilaeaaGreatDoor
open Go.RowKit
set_option linter.unusedVariables false
set_option linter.unusedSimpArgs false
set_option maxRecDepth 100000

set_option maxHeartbeats 2000000 in
theorem rquote_at {w : World} {v : Value} {l : List UInt8} (h : Bs w v (ints l)) (bl : Bool) (hl : l.length < 100000000) : Calls Tryz.prog 18 #[v, .bool bl] w fun e w' => e = .returned (.string ⟨(quote l bl).toArray⟩) ∧ Kp (fun _ => False) w w' := by
  have H := Hd.mk h
  obtain ⟨A, cp, rfl, hc, hr⟩ := h
  rw [ints_length] at hc H ⊢
  have hL : (l.length : Int) < 100000000 := by omega
  clear hr hc hl
  go_enter Tryz.func18, Tryz.ntmps18
  go_wp2_with fail
  go_loopw [5, 6] (fun v5 v6 wr => ∃ k : Nat, v6 = .int .i64 k ∧ (k : Int) ≤ (l.length : Int) ∧ Hd (Ob w.heap.size wr v5 (ints (quote (l.take k) bl)) ∧ Below w.heap.size w wr)) (fun _ v6 _ => l.length - (intOf v6).toNat)
  case atStart => exact ⟨0, rfl, by omega, ⟨Ob.fresh w _ (Nat.le_refl _), (Below.refl _ w).alloc (Nat.le_refl _) _⟩⟩
  case round =>
    obtain ⟨k, rfl, hk, HH⟩ := hrel
    by_cases hlt : k < l.length
    · have hlt2 : (k : Int) < (l.length : Int) := by omega
      have hql : Hd ((ints (quote (l.take k) bl)).length + 10 < 1000000000) := ⟨by
        have := quote_length (l.take k) bl
        have := List.length_take_le k l
        rw [ints_length]
        omega⟩
      have hq := Hd.mk (quote_take hlt bl)
      obtain ⟨b, o, rfl, hc0, hbw⟩ := bs_at H.out hlt
      have hc1 := bsee HH.out.2 hc0 hbw
      have hbw := Hd.mk hbw
      have hc0 := Hd.mk hc0
      generalize l[k] = c at *
      have hsz := Hd.mk HH.out.2.size
      cases hp : pln c.toNat bl
      · have hp := Hd.mk hp
        have hc256 := c.toNat_lt
        obtain ⟨x, hx⟩ : ∃ x, Hd (x = (hxd (c.toNat / 16)).toUInt8 ∧ (x.toNat : Int) = (hxd (c.toNat / 16) : Int)) := ⟨_, ⟨rfl, by rw [hxd_u8 (by omega)]⟩⟩
        obtain ⟨y, hy⟩ : ∃ x, Hd (x = (hxd (c.toNat % 16)).toUInt8 ∧ (x.toNat : Int) = (hxd (c.toNat % 16) : Int)) := ⟨_, ⟨rfl, by rw [hxd_u8 (by omega)]⟩⟩
        go_wp2_with (first | (go_at_call 60; with_reducible refine (plain_ref c.toNat bl _).mono ?_; rw [hp.out]; rintro e w' ⟨rfl, rfl⟩; dsimp only))
        have hS : Hd ((fun W : World => W.cell? ⟨b, o + k, none⟩ = some (.int .u8 ((c.toNat : Nat) : Int))) wr.drew) := ⟨hc1⟩
        refine rn_begin (fun W : World => W.cell? ⟨b, o + k, none⟩ = some (.int .u8 ((c.toNat : Nat) : Int))) (List.range 18) (by kernel_rfl) ?_
        refine rn_take (i := 0) (dst := some 27) (v := u5) rfl (by kernel_rfl) (fun _ _ _ h => h) rfl rfl (fun W hW => ex_move W _ _ rfl rfl) hS.out ?_
        simp only [Act.put, List.setIfInBounds_toArray, List.set_cons_zero, List.set_cons_succ]
        refine rn_take (i := 1) (dst := some 28) (v := .slice (some ⟨b, o, none⟩) l.length cp) rfl (by kernel_rfl) (fun _ _ _ h => h) rfl rfl (fun W hW => ex_move W _ _ rfl rfl) hS.out ?_
        simp only [Act.put, List.setIfInBounds_toArray, List.set_cons_zero, List.set_cons_succ]
        refine rn_take (i := 2) (dst := some 29) (v := .int .i64 ((k : Nat) : Int)) rfl (by kernel_rfl) (fun _ _ _ h => h) rfl rfl (fun W hW => ex_move W _ _ rfl rfl) hS.out ?_
        simp only [Act.put, List.setIfInBounds_toArray, List.set_cons_zero, List.set_cons_succ]
        refine rn_take (i := 3) (dst := some 30) (v := .pointer (some ⟨b, o + k, none⟩)) rfl (by kernel_rfl) (fun _ _ _ h => h) rfl rfl (fun W hW => er_index W 22 5 _ _ rfl 1 k Tryz.underlying22 (by kernel_rfl) b o _ _ (o + k) (by first | rfl | omega) rfl .i64 rfl (by omega)) hS.out ?_
        simp only [Act.put, List.setIfInBounds_toArray, List.set_cons_zero, List.set_cons_succ]
        refine rn_take (i := 4) (dst := some 31) (v := .int .u8 ((c.toNat : Nat) : Int)) rfl (by kernel_rfl) (fun _ _ _ h => h) rfl rfl (fun W hW => ex_load W 5 _ _ rfl ⟨b, o + k, none⟩ Tryz.underlying5 rfl rfl (hW)) hS.out ?_
        simp only [Act.put, List.setIfInBounds_toArray, List.set_cons_zero, List.set_cons_succ]
        refine rn_take (i := 5) (dst := some 32) (v := .int .i64 ((c.toNat : Nat) : Int)) rfl (by kernel_rfl) (fun _ _ _ h => h) rfl rfl (fun W hW => ex_toi64 W 5 3 _ rfl (by kernel_rfl) Tryz.underlying3 .u8 c.toNat (by omega) rfl) hS.out ?_
        simp only [Act.put, List.setIfInBounds_toArray, List.set_cons_zero, List.set_cons_succ]
        refine rn_take (i := 6) (dst := some 33) (v := .int .i64 ((c.toNat / 16 : Nat) : Int)) rfl (by kernel_rfl) (fun _ _ _ h => h) rfl rfl (fun W hW => ex_quo16 W 3 _ _ _ rfl c.toNat (by omega) rfl rfl) hS.out ?_
        simp only [Act.put, List.setIfInBounds_toArray, List.set_cons_zero, List.set_cons_succ]
        refine rn_take (i := 8) (dst := some 35) (v := .slice (some ⟨b, o, none⟩) l.length cp) rfl (by kernel_rfl) (fun _ _ _ h => h) rfl rfl (fun W hW => ex_move W _ _ rfl rfl) hS.out ?_
        simp only [Act.put, List.setIfInBounds_toArray, List.set_cons_zero, List.set_cons_succ]
        refine rn_take (i := 9) (dst := some 36) (v := .int .i64 ((k : Nat) : Int)) rfl (by kernel_rfl) (fun _ _ _ h => h) rfl rfl (fun W hW => ex_move W _ _ rfl rfl) hS.out ?_
        simp only [Act.put, List.setIfInBounds_toArray, List.set_cons_zero, List.set_cons_succ]
        refine rn_take (i := 10) (dst := some 37) (v := .pointer (some ⟨b, o + k, none⟩)) rfl (by kernel_rfl) (fun _ _ _ h => h) rfl rfl (fun W hW => er_index W 22 5 _ _ rfl 1 k Tryz.underlying22 (by kernel_rfl) b o _ _ (o + k) (by first | rfl | omega) rfl .i64 rfl (by omega)) hS.out ?_
        simp only [Act.put, List.setIfInBounds_toArray, List.set_cons_zero, List.set_cons_succ]
        refine rn_take (i := 11) (dst := some 38) (v := .int .u8 ((c.toNat : Nat) : Int)) rfl (by kernel_rfl) (fun _ _ _ h => h) rfl rfl (fun W hW => ex_load W 5 _ _ rfl ⟨b, o + k, none⟩ Tryz.underlying5 rfl rfl (hW)) hS.out ?_
        simp only [Act.put, List.setIfInBounds_toArray, List.set_cons_zero, List.set_cons_succ]
        refine rn_take (i := 12) (dst := some 39) (v := .int .i64 ((c.toNat : Nat) : Int)) rfl (by kernel_rfl) (fun _ _ _ h => h) rfl rfl (fun W hW => ex_toi64 W 5 3 _ rfl (by kernel_rfl) Tryz.underlying3 .u8 c.toNat (by omega) rfl) hS.out ?_
        simp only [Act.put, List.setIfInBounds_toArray, List.set_cons_zero, List.set_cons_succ]
        refine rn_take (i := 13) (dst := some 40) (v := .int .i64 ((c.toNat % 16 : Nat) : Int)) rfl (by kernel_rfl) (fun _ _ _ h => h) rfl rfl (fun W hW => ex_rem16 W 3 _ _ _ rfl c.toNat (by omega) rfl rfl) hS.out ?_
        simp only [Act.put, List.setIfInBounds_toArray, List.set_cons_zero, List.set_cons_succ]
        have hex : ∀ (n : Nat) (hn : n < 16) (W : World), Calls Tryz.prog 61 [.int .i64 (n : Int)].toArray W fun e w' => e = .returned (.int .u8 (hxd n : Int)) ∧ W = w' := fun n hn W => hex_at n hn W
        refine rn_one (i := 7) (dst := some 34) rfl (by kernel_rfl) rfl rfl (fun K hK => ?_)
        refine ow_call 61 _ _ rfl Tryz.func61 (by kernel_rfl) (by kernel_rfl) [.int .i64 ((c.toNat / 16 : Nat) : Int)] rfl (hex _ (by omega) _) ?_
        rintro e w1 ⟨rfl, rfl⟩
        refine ⟨_, rfl, hK _ _ (fun _ => hS.out) ?_⟩
        clear hK K
        rw [← hx.out.2]
        simp only [Act.put, List.setIfInBounds_toArray, List.set_cons_zero, List.set_cons_succ]
        refine rn_one (i := 14) (dst := some 41) rfl (by kernel_rfl) rfl rfl (fun K hK => ?_)
        refine ow_call 61 _ _ rfl Tryz.func61 (by kernel_rfl) (by kernel_rfl) [.int .i64 ((c.toNat % 16 : Nat) : Int)] rfl (hex _ (by omega) _) ?_
        rintro e w1 ⟨rfl, rfl⟩
        refine ⟨_, rfl, hK _ _ (fun _ => hS.out) ?_⟩
        clear hK K hex
        rw [← hy.out.2]
        simp only [Act.put, List.setIfInBounds_toArray, List.set_cons_zero, List.set_cons_succ]
        refine rn_one (i := 15) (dst := some 42) rfl (by kernel_rfl) rfl rfl (fun K hK => ?_)
        refine ow_lit3 _ _ _ rfl 92 (x.toNat : Int) (y.toNat : Int) rfl rfl rfl ?_
        intro v1 w1 hv1 hk1
        refine hK _ _ (fun _ => hk1.see hS.out id) ?_
        have hS1 : Hd ((fun W : World => W.cell? ⟨b, o + k, none⟩ = some (.int .u8 ((c.toNat : Nat) : Int))) w1) := ⟨hk1.see hS.out id⟩
        have hv1 := Hd.mk hv1
        have hk1 := Hd.mk hk1
        clear hK K hS
        have hS := hS1
        clear hS1
        simp only [Act.put, List.setIfInBounds_toArray, List.set_cons_zero, List.set_cons_succ]
        refine rn_one (i := 16) (dst := some 43) rfl (by kernel_rfl) rfl rfl (fun K hK => ?_)
        refine ow_ob _ _ rfl u5 _ rfl ((HH.out.1.keep ((Kp.refl _ wr).drew)).keep hk1.out) (Nat.le_trans hsz.out hk1.out.size) v1 [92, (x.toNat : Int), (y.toNat : Int)] rfl hv1.out (by have := hql.out; simp only [List.length_cons, List.length_nil]; omega) ?_
        intro v2 w2 hv2 hb2
        have hS2 : w2.cell? ⟨b, o + k, none⟩ = some (.int .u8 ((c.toNat : Nat) : Int)) := by
          exact bsee ((HH.out.2.trans ((((Kp.refl (fun _ => False) wr).drew).andThen hk1.out (fun _ _ h => h)).toBelow hsz.out (fun _ h => h.elim))).trans hb2) hc0.out hbw.out
        refine hK _ _ (fun _ => hS2) ?_
        clear hK K hS
        have hS := Hd.mk hS2
        clear hS2
        have hv2 := Hd.mk hv2
        have hb2 := Hd.mk hb2
        simp only [Act.put, List.setIfInBounds_toArray, List.set_cons_zero, List.set_cons_succ]
        refine rn_take (i := 17) (dst := some 5) (v := v2) rfl (by kernel_rfl) (fun _ _ _ h => h) rfl rfl (fun W hW => ex_assign W _ _ rfl rfl) hS.out ?_
        simp only [Act.put, List.setIfInBounds_toArray, List.set_cons_zero, List.set_cons_succ]
        refine rn_done (by kernel_rfl) ?_ _
        clear hS
        go_wp2_with fail
        refine ⟨⟨k + 1, by go_num, by omega, ⟨?_, ?_⟩⟩, by simp [intOf]; omega⟩
        · rw [hq.out, qone, hp.out, if_neg (by decide), ← hx.out.1, ← hy.out.1, ints_append]
          exact hv2.out
        · refine HH.out.2.trans ?_
          have := ((Kp.refl (fun _ => False) wr).drew).andThen hk1.out (fun _ _ h => h)
          exact (this.toBelow hsz.out (fun _ h => h.elim)).trans hb2.out
      · have hp := Hd.mk hp
        go_wp2_with (first | (go_at_call 60; with_reducible refine (plain_ref c.toNat bl _).mono ?_; rw [hp.out]; rintro e w' ⟨rfl, rfl⟩; dsimp only) | (with_reducible refine wl_lit1 rfl (.tmp 24) rfl (c.toNat : Int) rfl ?_; intro v1 w1 hv1 hk1; have hv1 := Hd.mk hv1; have hk1 := Hd.mk hk1) | (with_reducible refine wl_ob rfl (.tmp 20) (.tmp 25) rfl u5 _ rfl (HH.out.1.keep hk1.out) (Nat.le_trans hsz.out hk1.out.size) v1 [(c.toNat : Int)] rfl hv1.out (by have := hql.out; simp only [List.length_cons, List.length_nil]; omega) ?_; intro v2 w2 hv2 hb2; have hv2 := Hd.mk hv2; have hb2 := Hd.mk hb2))
        refine ⟨⟨k + 1, by go_num, by omega, ⟨?_, ?_⟩⟩, by simp [intOf]; omega⟩
        · rw [hq.out, qone, if_pos hp.out, ints_append]
          exact hv2.out
        · refine HH.out.2.trans ?_
          exact (hk1.out.toBelow hsz.out (fun _ h => h.elim)).trans hb2.out
    · have hk2 : (k : Int) = l.length := by omega
      have hk3 : k = l.length := by omega
      have hb : Hd (Ob w.heap.size wr u5 (ints (quote l bl)) ∧ Below w.heap.size w wr) := ⟨by
        have := HH.out
        rw [hk3, List.take_length] at this
        exact this⟩
      clear hk3 HH
      go_wp2_with (first | (with_reducible refine wl_run rfl (ex_tostr _ 22 9 5 (.tmp 44) rfl Tryz.underlying22 Tryz.underlying5 Tryz.underlying9 u5 (quote l bl) hb.out.1.bs rfl) ?_))
      go_ret
      exact ⟨rfl, Kp.of_below hb.out.2 _⟩
end Go.Proofs.YtkcechpaeilaeaaGreatDoor
