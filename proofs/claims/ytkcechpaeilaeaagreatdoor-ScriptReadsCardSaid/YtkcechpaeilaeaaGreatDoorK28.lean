/- Joined out of: A12. -/
import Derived.Test.YtkcechpaeilaeaaGreatDoorK22
import Derived.Test.YtkcechpaeilaeaaGreatDoorK21
set_option linter.unusedVariables false
set_option linter.unusedSimpArgs false
namespace Go.Proofs.YtkcechpaeilaeaaGreatDoor
open Go.RowKit
set_option maxRecDepth 100000
set_option maxHeartbeats 8000000 in
theorem ract_at {l : List UInt8} (hl : l.length < 70000) (w : World) : Calls Tryz.prog 12 #[.string ⟨l.toArray⟩] w fun e w' => ActR l w w' e := by
 obtain ⟨W0, hW0⟩ : ∃ x, Hd (wd l = x) := ⟨_, ⟨rfl⟩⟩
 obtain ⟨R1, hR1⟩ : ∃ x, Hd (rs l = x) := ⟨_, ⟨rfl⟩⟩
 have lR1 : Hd (R1.length < 70000) := ⟨by rw [← hR1.out]; exact Nat.lt_of_le_of_lt (rs_length _) hl⟩
 have hl := Hd.mk hl
 have hself : Hd ((l != l) = false) := ⟨by simp⟩
 have i24 : Hd ((Tryz.prog.info? 24).map (·.size) = some ([.int .i64 0, .int .i64 0, .int .i64 0, .int .i64 0, .int .i64 0] : List Value).length) := ⟨info24⟩
 have us3 : Hd ((Tryz.prog.underlying 3).isSome = true) := ⟨by kernel_rfl⟩
 have btn : Hd (∀ W : World, Bs W (.slice none ([] : List UInt8).length 0) (ints [])) := ⟨fun W => (BsF.nil 0 _).bs⟩
 have ftn : Hd (∀ B b : Nat, (Value.slice none ([] : List UInt8).length 0).ownBlock = some b → B < b) := ⟨fun B b h => by cases h⟩
 go_enter Tryz.func12, Tryz.ntmps12
 go_wp2_with (go_at_call 53; refine (rcut_to hW0.out hR1.out hl.out _).mono ?_; rintro e w1 ⟨⟨b0, rfl⟩, hk1⟩; have hV := Hd.mk (Aw.start hk1); clear hk1; dsimp only)
 go_loopw [8] (fun v7 wr => ∃ (j d : Int), v7 = .int .i64 j ∧ 1 ≤ j ∧ j ≤ 15 ∧ Hd (Aw w wr w.heap.size w1.heap.size d [] [] 0 [] none 0 none 0) ∧ Hd (NamesTo W0 j d)) (fun v7 _ => (15 - intOf v7).toNat)
 case atStart => exact ⟨1, 0, rfl, by omega, by omega, hV, ⟨NamesTo.start _⟩⟩
 case round =>
  clear hV
  obtain ⟨j, d, rfl, hj1, hj2, hV, hN⟩ := hrel
  by_cases hj : j ≤ 14
  ·obtain ⟨y, hy⟩ : ∃ b, Hd ((nm j == W0) = b) := ⟨_, ⟨rfl⟩⟩
   have hj2 : Hd (j ≤ 14) := ⟨hj⟩
   have hj0 : Hd (1 ≤ j) := ⟨hj1⟩
   cases y
   ·have hN2 := Hd.mk (hN.out.no (fun e => by have := hy.out; rw [e] at this; simp at this))
    go_wp2_with (first | (go_at_call 45; refine (rname_j hj0.out hj2.out _).mono ?_; rintro e w2 ⟨rfl, hk1⟩; have hV2 := Hd.mk (hV.out.keep hk1); clear hV; have hV := hV2; clear hV2 hk1; dsimp only) | ((with_reducible refine wl_run rfl (ex_seql _ 9 9 (.tmp 35) (.tmp 36) rfl (nm j) W0 _ hy.out rfl rfl) ?_); simp only [Act.put, uA, uB, uC]))
    exact ⟨⟨j + 1, d, rfl, by omega, by omega, hV, hN2⟩, by simp [intOf]; omega⟩
   ·have hN2 := Hd.mk (NamesTo.yes (d := d) hj1 hj (eq_of_beq hy.out))
    go_wp2_with (first | (go_at_call 45; refine (rname_j hj0.out hj2.out _).mono ?_; rintro e w2 ⟨rfl, hk1⟩; have hV2 := Hd.mk (hV.out.keep hk1); clear hV; have hV := hV2; clear hV2 hk1; dsimp only) | ((with_reducible refine wl_run rfl (ex_seql _ 9 9 (.tmp 35) (.tmp 36) rfl (nm j) W0 _ hy.out rfl rfl) ?_); simp only [Act.put, uA, uB, uC]) | ((with_reducible refine wl_setd rfl (.tmp 39) (.tmp 38) rfl hV.out j rfl rfl ?_); intro w2 hV2; have hV2 := Hd.mk hV2; clear hV; have hV := hV2; clear hV2; simp only [Act.put, uA, uB, uC]))
    exact ⟨⟨j + 1, j, rfl, by omega, by omega, hV, hN2⟩, by simp [intOf]; omega⟩
  ·have hM := Hd.mk (hN.out.done (by omega))
   clear hN
   have hj15 : j = 15 := by omega
   subst hj15
   clear hj hj1 hj2
   obtain ⟨hnd, ehn⟩ : ∃ b, Hd (hn d = b) := ⟨_, ⟨rfl⟩⟩
   obtain ⟨hkd, ehk⟩ : ∃ b, Hd (hk d = b) := ⟨_, ⟨rfl⟩⟩
   obtain ⟨htd, eht⟩ : ∃ b, Hd (ht d = b) := ⟨_, ⟨rfl⟩⟩
   obtain ⟨crd, ecr⟩ : ∃ b, Hd (decide (d = 12) = b) := ⟨_, ⟨rfl⟩⟩
   rw [← hW0.out] at hM
   obtain ⟨zd, ez⟩ : ∃ b, Hd (decide (d = 0) = b) := ⟨_, ⟨rfl⟩⟩
   cases zd
   ·cases crd
    ·cases hkd
     ·cases hnd
      ·cases htd
       ·have hrd : Hd (readR d R1 = some ⟨d, [], [], 0, []⟩) := ⟨by simp only [readR, ehk.out, ehn.out, eht.out, ne12 ecr.out, Bool.false_eq_true, if_false, if_true, Option.map_some]⟩
        have hL := Hd.mk (fun (w2 : World) (At : Option Addr) (ct : Nat) (Ap : Option Addr) (cp : Nat) (h : Aw w w2 w.heap.size w1.heap.size d [] [] 0 [] At ct Ap cp) => rline_to ⟨d, [], [], 0, []⟩ l At ct Ap cp h.bt h.op.bs)
        simp only [List.length_nil] at hL
        go_wp2_with (first | (go_at_call 46; refine (rk_at d _).mono ?_; rw [ehk.out]; rintro e w2 ⟨rfl, rfl⟩; dsimp only) | (go_at_call 47; refine (rn_at d _).mono ?_; rw [ehn.out]; rintro e w2 ⟨rfl, rfl⟩; dsimp only) | (go_at_call 49; refine (rt_at d _).mono ?_; rw [eht.out]; rintro e w2 ⟨rfl, rfl⟩; dsimp only) | (with_reducible refine wl_run rfl (ex_load _ 3 _ (.int .i64 d) rfl ⟨w1.heap.size, 0, none⟩ U3 rfl rfl hV.out.av.c0) ?_) | ((with_reducible refine wl_run rfl (ex_eql _ 3 3 (.tmp 41) (.const (.int .i64 0)) rfl .i64 d 0 rfl rfl _ ez.out) ?_); simp only [Act.put, uA, uB, uC]))
        go_loopw [5] (fun v5 w3 => v5 = .string ⟨R1.toArray⟩ ∧ Hd (Aw w w3 w.heap.size w1.heap.size d [] [] 0 [] none 0 none 0)) (fun _ _ => 0)
        case atStart => exact ⟨rfl, hV⟩
        case round =>
         clear hV
         obtain ⟨rfl, hV⟩ := hrel
         go_wp2_with (first | (with_reducible refine wl_run rfl (ex_load _ 3 _ (.int .i64 d) rfl ⟨w1.heap.size, 0, none⟩ U3 rfl rfl hV.out.av.c0) ?_) | ((with_reducible refine wl_run rfl (ex_eql _ 3 3 (.tmp 85) (.const (.int .i64 12)) rfl .i64 d 12 rfl rfl _ ecr.out) ?_); simp only [Act.put, uA, uB, uC]) | ((with_reducible refine wl_run rfl (ex_act _ rfl hV.out rfl) ?_); simp only [Act.put, uA, uB, uC]) | (go_at_call 10; (with_reducible refine (hL.out _ _ _ _ _ hV.out).mono ?_); rintro e w2 ⟨hc, hk1⟩; have hV2 := Hd.mk (hV.out.keep hk1); clear hV; have hV := hV2; clear hV2 hk1; rcases hc with ⟨rfl, hy⟩ | ⟨s, rfl, hs, hy⟩ | ⟨rfl, hy⟩ <;> (have hy := Hd.mk hy; try have hs := Hd.mk hs) <;> dsimp only) | ((with_reducible refine wl_runG ?hw (ex_sneq _ 9 9 (.tmp 128) (.tmp 129) rfl l l false hself.out rfl rfl) ?_); (case hw => rfl); simp only [Act.put, uA, uB, uC]) | ((with_reducible refine wl_runG ?hw (ex_sneq _ 9 9 (.tmp 128) (.tmp 129) rfl s l true hs.out rfl rfl) ?_); (case hw => rfl); simp only [Act.put, uA, uB, uC]) | ((with_reducible refine wl_res rfl (.tmp 2) (.tmp 133) rfl hV.out [.int .i64 d, .string ⟨([] : List UInt8).toArray⟩, .slice none 0 0, .int .i64 0, .slice none 0 0] rfl rfl rfl one5 ?_); intro w2 hZ hKK hBT hBP; have hZ := Hd.mk hZ; have hKK := Hd.mk hKK; have hBT := Hd.mk hBT; have hBP := Hd.mk hBP; simp only [Act.put, uA, uB, uC]) | ((with_reducible refine wl_res rfl (.tmp 2) (.tmp 132) rfl hV.out Z5 rfl rfl rfl one5 ?_); intro w2 hZ hKK hBT hBP; have hZ := Hd.mk hZ; have hKK := Hd.mk hKK; have hBT := Hd.mk hBT; have hBP := Hd.mk hBP; simp only [Act.put, uA, uB, uC]))
         ·refine bodyPost_ret (results_act rfl _ _ w.heap.size _ rfl hZ.out rfl) rfl ?_
          exact ⟨⟨⟨d, [], [], 0, []⟩, none, 0, none, 0, true, rfl, says_yes hy.out.1 hy.out.2, (fun h => by cases h), hBT.out, hBP.out⟩, hKK.out⟩
         ·refine bodyPost_ret (results_act rfl _ _ w.heap.size _ rfl hZ.out rfl) rfl ?_
          exact ⟨⟨⟨0, [], [], 0, []⟩, none, 0, none, 0, false, rfl, says_no (says_R hM.out (by rw [hR1.out]; exact hrd.out)) hy.out, (fun _ => rfl), BsF.nil _ _, BsF.nil _ _⟩, hKK.out⟩
         ·refine bodyPost_ret (results_act rfl _ _ w.heap.size _ rfl hZ.out rfl) rfl ?_
          exact ⟨⟨⟨0, [], [], 0, []⟩, none, 0, none, 0, false, rfl, says_no (says_R hM.out (by rw [hR1.out]; exact hrd.out)) hy.out, (fun _ => rfl), BsF.nil _ _, BsF.nil _ _⟩, hKK.out⟩
       ·obtain ⟨t0, ht0⟩ : ∃ x, Hd ((uq true R1).getD [] = x) := ⟨_, ⟨rfl⟩⟩
        have hrd : Hd (readR d R1 = some ⟨d, [], t0, 0, []⟩) := ⟨by simp only [readR, ehk.out, ehn.out, eht.out, ne12 ecr.out, Bool.false_eq_true, if_false, if_true, Option.map_some, ht0.out]⟩
        have hL := Hd.mk (fun (w2 : World) (At : Option Addr) (ct : Nat) (Ap : Option Addr) (cp : Nat) (h : Aw w w2 w.heap.size w1.heap.size d [] t0 0 [] At ct Ap cp) => rline_to ⟨d, [], t0, 0, []⟩ l At ct Ap cp h.bt h.op.bs)
        simp only [List.length_nil] at hL
        go_wp2_with (first | (go_at_call 46; refine (rk_at d _).mono ?_; rw [ehk.out]; rintro e w2 ⟨rfl, rfl⟩; dsimp only) | (go_at_call 47; refine (rn_at d _).mono ?_; rw [ehn.out]; rintro e w2 ⟨rfl, rfl⟩; dsimp only) | (go_at_call 49; refine (rt_at d _).mono ?_; rw [eht.out]; rintro e w2 ⟨rfl, rfl⟩; dsimp only) | (with_reducible refine wl_run rfl (ex_load _ 3 _ (.int .i64 d) rfl ⟨w1.heap.size, 0, none⟩ U3 rfl rfl hV.out.av.c0) ?_) | ((with_reducible refine wl_run rfl (ex_eql _ 3 3 (.tmp 41) (.const (.int .i64 0)) rfl .i64 d 0 rfl rfl _ ez.out) ?_); simp only [Act.put, uA, uB, uC]) | (go_at_call 15; (with_reducible refine (runq_to R1 true ht0.out lR1.out _).mono ?_); rintro e w2 ⟨⟨Aq, cq, er, rfl, hb, hf⟩, hk1⟩; have hf2 : Hd (∀ b, (Value.slice Aq _ cq).ownBlock = some b → w1.heap.size < b) := ⟨fun b h => Nat.lt_of_lt_of_le hV.out.av.lt (hf b h)⟩; have hb := Hd.mk hb; have hV2 := Hd.mk (hV.out.keep hk1); clear hV; have hV := hV2; clear hV2 hk1; dsimp only) | ((with_reducible refine wl_sett rfl (.tmp 83) (.tmp 81) rfl hV.out Aq cq t0 rfl rfl hb.out hf2.out ?_); intro w2 hV2; have hV2 := Hd.mk hV2; clear hV; have hV := hV2; clear hV2; simp only [Act.put, uA, uB, uC]))
        go_loopw [5] (fun v5 w3 => v5 = .string ⟨R1.toArray⟩ ∧ Hd (Aw w w3 w.heap.size w1.heap.size d [] t0 0 [] Aq cq none 0)) (fun _ _ => 0)
        case atStart => exact ⟨rfl, hV⟩
        case round =>
         clear hV
         obtain ⟨rfl, hV⟩ := hrel
         go_wp2_with (first | (with_reducible refine wl_run rfl (ex_load _ 3 _ (.int .i64 d) rfl ⟨w1.heap.size, 0, none⟩ U3 rfl rfl hV.out.av.c0) ?_) | ((with_reducible refine wl_run rfl (ex_eql _ 3 3 (.tmp 85) (.const (.int .i64 12)) rfl .i64 d 12 rfl rfl _ ecr.out) ?_); simp only [Act.put, uA, uB, uC]) | ((with_reducible refine wl_run rfl (ex_act _ rfl hV.out rfl) ?_); simp only [Act.put, uA, uB, uC]) | (go_at_call 10; (with_reducible refine (hL.out _ _ _ _ _ hV.out).mono ?_); rintro e w2 ⟨hc, hk1⟩; have hV2 := Hd.mk (hV.out.keep hk1); clear hV; have hV := hV2; clear hV2 hk1; rcases hc with ⟨rfl, hy⟩ | ⟨s, rfl, hs, hy⟩ | ⟨rfl, hy⟩ <;> (have hy := Hd.mk hy; try have hs := Hd.mk hs) <;> dsimp only) | ((with_reducible refine wl_runG ?hw (ex_sneq _ 9 9 (.tmp 128) (.tmp 129) rfl l l false hself.out rfl rfl) ?_); (case hw => rfl); simp only [Act.put, uA, uB, uC]) | ((with_reducible refine wl_runG ?hw (ex_sneq _ 9 9 (.tmp 128) (.tmp 129) rfl s l true hs.out rfl rfl) ?_); (case hw => rfl); simp only [Act.put, uA, uB, uC]) | ((with_reducible refine wl_res rfl (.tmp 2) (.tmp 133) rfl hV.out [.int .i64 d, .string ⟨([] : List UInt8).toArray⟩, .slice Aq t0.length cq, .int .i64 0, .slice none 0 0] rfl rfl rfl one5 ?_); intro w2 hZ hKK hBT hBP; have hZ := Hd.mk hZ; have hKK := Hd.mk hKK; have hBT := Hd.mk hBT; have hBP := Hd.mk hBP; simp only [Act.put, uA, uB, uC]) | ((with_reducible refine wl_res rfl (.tmp 2) (.tmp 132) rfl hV.out Z5 rfl rfl rfl one5 ?_); intro w2 hZ hKK hBT hBP; have hZ := Hd.mk hZ; have hKK := Hd.mk hKK; have hBT := Hd.mk hBT; have hBP := Hd.mk hBP; simp only [Act.put, uA, uB, uC]))
         ·refine bodyPost_ret (results_act rfl _ _ w.heap.size _ rfl hZ.out rfl) rfl ?_
          exact ⟨⟨⟨d, [], t0, 0, []⟩, Aq, cq, none, 0, true, rfl, says_yes hy.out.1 hy.out.2, (fun h => by cases h), hBT.out, hBP.out⟩, hKK.out⟩
         ·refine bodyPost_ret (results_act rfl _ _ w.heap.size _ rfl hZ.out rfl) rfl ?_
          exact ⟨⟨⟨0, [], [], 0, []⟩, none, 0, none, 0, false, rfl, says_no (says_R hM.out (by rw [hR1.out]; exact hrd.out)) hy.out, (fun _ => rfl), BsF.nil _ _, BsF.nil _ _⟩, hKK.out⟩
         ·refine bodyPost_ret (results_act rfl _ _ w.heap.size _ rfl hZ.out rfl) rfl ?_
          exact ⟨⟨⟨0, [], [], 0, []⟩, none, 0, none, 0, false, rfl, says_no (says_R hM.out (by rw [hR1.out]; exact hrd.out)) hy.out, (fun _ => rfl), BsF.nil _ _, BsF.nil _ _⟩, hKK.out⟩
      ·cases htd
       ·obtain ⟨W1, hW1⟩ : ∃ x, Hd (wd R1 = x) := ⟨_, ⟨rfl⟩⟩
        obtain ⟨R2, hR2⟩ : ∃ x, Hd (rs R1 = x) := ⟨_, ⟨rfl⟩⟩
        obtain ⟨n0, hn0⟩ : ∃ x, Hd (dig W1 = x) := ⟨_, ⟨rfl⟩⟩
        have lW1 : Hd (W1.length < 70000) := ⟨by rw [← hW1.out]; exact Nat.lt_of_le_of_lt (wd_length _) lR1.out⟩
        have lR2 : Hd (R2.length < 70000) := ⟨by rw [← hR2.out]; exact Nat.lt_of_le_of_lt (rs_length _) lR1.out⟩
        have hrd : Hd (readR d R1 = some ⟨d, [], [], n0, []⟩) := ⟨by simp only [readR, ehk.out, ehn.out, eht.out, ne12 ecr.out, Bool.false_eq_true, if_false, if_true, Option.map_some, hW1.out, hR2.out, hn0.out]⟩
        have hL := Hd.mk (fun (w2 : World) (At : Option Addr) (ct : Nat) (Ap : Option Addr) (cp : Nat) (h : Aw w w2 w.heap.size w1.heap.size d [] [] n0 [] At ct Ap cp) => rline_to ⟨d, [], [], n0, []⟩ l At ct Ap cp h.bt h.op.bs)
        simp only [List.length_nil] at hL
        go_wp2_with (first | (go_at_call 46; refine (rk_at d _).mono ?_; rw [ehk.out]; rintro e w2 ⟨rfl, rfl⟩; dsimp only) | (go_at_call 47; refine (rn_at d _).mono ?_; rw [ehn.out]; rintro e w2 ⟨rfl, rfl⟩; dsimp only) | (go_at_call 49; refine (rt_at d _).mono ?_; rw [eht.out]; rintro e w2 ⟨rfl, rfl⟩; dsimp only) | (with_reducible refine wl_run rfl (ex_load _ 3 _ (.int .i64 d) rfl ⟨w1.heap.size, 0, none⟩ U3 rfl rfl hV.out.av.c0) ?_) | ((with_reducible refine wl_run rfl (ex_eql _ 3 3 (.tmp 41) (.const (.int .i64 0)) rfl .i64 d 0 rfl rfl _ ez.out) ?_); simp only [Act.put, uA, uB, uC]) | (go_at_call 53; (with_reducible refine (rcut_to hW1.out hR2.out lR1.out _).mono ?_); rintro e w2 ⟨⟨bb, rfl⟩, hk1⟩; have hV2 := Hd.mk (hV.out.keep hk1); clear hV; have hV := hV2; clear hV2 hk1; dsimp only) | (go_at_call 54; (with_reducible refine (dig_to hn0.out lW1.out _).mono ?_); rintro e w2 ⟨rfl, rfl⟩; dsimp only) | ((with_reducible refine wl_setn rfl (.tmp 73) (.tmp 72) rfl hV.out n0 rfl rfl ?_); intro w2 hV2; have hV2 := Hd.mk hV2; clear hV; have hV := hV2; clear hV2; simp only [Act.put, uA, uB, uC]))
        go_loopw [5] (fun v5 w3 => v5 = .string ⟨R2.toArray⟩ ∧ Hd (Aw w w3 w.heap.size w1.heap.size d [] [] n0 [] none 0 none 0)) (fun _ _ => 0)
        case atStart => exact ⟨rfl, hV⟩
        case round =>
         clear hV
         obtain ⟨rfl, hV⟩ := hrel
         go_wp2_with (first | (with_reducible refine wl_run rfl (ex_load _ 3 _ (.int .i64 d) rfl ⟨w1.heap.size, 0, none⟩ U3 rfl rfl hV.out.av.c0) ?_) | ((with_reducible refine wl_run rfl (ex_eql _ 3 3 (.tmp 85) (.const (.int .i64 12)) rfl .i64 d 12 rfl rfl _ ecr.out) ?_); simp only [Act.put, uA, uB, uC]) | ((with_reducible refine wl_run rfl (ex_act _ rfl hV.out rfl) ?_); simp only [Act.put, uA, uB, uC]) | (go_at_call 10; (with_reducible refine (hL.out _ _ _ _ _ hV.out).mono ?_); rintro e w2 ⟨hc, hk1⟩; have hV2 := Hd.mk (hV.out.keep hk1); clear hV; have hV := hV2; clear hV2 hk1; rcases hc with ⟨rfl, hy⟩ | ⟨s, rfl, hs, hy⟩ | ⟨rfl, hy⟩ <;> (have hy := Hd.mk hy; try have hs := Hd.mk hs) <;> dsimp only) | ((with_reducible refine wl_runG ?hw (ex_sneq _ 9 9 (.tmp 128) (.tmp 129) rfl l l false hself.out rfl rfl) ?_); (case hw => rfl); simp only [Act.put, uA, uB, uC]) | ((with_reducible refine wl_runG ?hw (ex_sneq _ 9 9 (.tmp 128) (.tmp 129) rfl s l true hs.out rfl rfl) ?_); (case hw => rfl); simp only [Act.put, uA, uB, uC]) | ((with_reducible refine wl_res rfl (.tmp 2) (.tmp 133) rfl hV.out [.int .i64 d, .string ⟨([] : List UInt8).toArray⟩, .slice none 0 0, .int .i64 n0, .slice none 0 0] rfl rfl rfl one5 ?_); intro w2 hZ hKK hBT hBP; have hZ := Hd.mk hZ; have hKK := Hd.mk hKK; have hBT := Hd.mk hBT; have hBP := Hd.mk hBP; simp only [Act.put, uA, uB, uC]) | ((with_reducible refine wl_res rfl (.tmp 2) (.tmp 132) rfl hV.out Z5 rfl rfl rfl one5 ?_); intro w2 hZ hKK hBT hBP; have hZ := Hd.mk hZ; have hKK := Hd.mk hKK; have hBT := Hd.mk hBT; have hBP := Hd.mk hBP; simp only [Act.put, uA, uB, uC]))
         ·refine bodyPost_ret (results_act rfl _ _ w.heap.size _ rfl hZ.out rfl) rfl ?_
          exact ⟨⟨⟨d, [], [], n0, []⟩, none, 0, none, 0, true, rfl, says_yes hy.out.1 hy.out.2, (fun h => by cases h), hBT.out, hBP.out⟩, hKK.out⟩
         ·refine bodyPost_ret (results_act rfl _ _ w.heap.size _ rfl hZ.out rfl) rfl ?_
          exact ⟨⟨⟨0, [], [], 0, []⟩, none, 0, none, 0, false, rfl, says_no (says_R hM.out (by rw [hR1.out]; exact hrd.out)) hy.out, (fun _ => rfl), BsF.nil _ _, BsF.nil _ _⟩, hKK.out⟩
         ·refine bodyPost_ret (results_act rfl _ _ w.heap.size _ rfl hZ.out rfl) rfl ?_
          exact ⟨⟨⟨0, [], [], 0, []⟩, none, 0, none, 0, false, rfl, says_no (says_R hM.out (by rw [hR1.out]; exact hrd.out)) hy.out, (fun _ => rfl), BsF.nil _ _, BsF.nil _ _⟩, hKK.out⟩
       ·obtain ⟨W1, hW1⟩ : ∃ x, Hd (wd R1 = x) := ⟨_, ⟨rfl⟩⟩
        obtain ⟨R2, hR2⟩ : ∃ x, Hd (rs R1 = x) := ⟨_, ⟨rfl⟩⟩
        obtain ⟨n0, hn0⟩ : ∃ x, Hd (dig W1 = x) := ⟨_, ⟨rfl⟩⟩
        have lW1 : Hd (W1.length < 70000) := ⟨by rw [← hW1.out]; exact Nat.lt_of_le_of_lt (wd_length _) lR1.out⟩
        have lR2 : Hd (R2.length < 70000) := ⟨by rw [← hR2.out]; exact Nat.lt_of_le_of_lt (rs_length _) lR1.out⟩
        obtain ⟨t0, ht0⟩ : ∃ x, Hd ((uq true R2).getD [] = x) := ⟨_, ⟨rfl⟩⟩
        have hrd : Hd (readR d R1 = some ⟨d, [], t0, n0, []⟩) := ⟨by simp only [readR, ehk.out, ehn.out, eht.out, ne12 ecr.out, Bool.false_eq_true, if_false, if_true, Option.map_some, hW1.out, hR2.out, hn0.out, ht0.out]⟩
        have hL := Hd.mk (fun (w2 : World) (At : Option Addr) (ct : Nat) (Ap : Option Addr) (cp : Nat) (h : Aw w w2 w.heap.size w1.heap.size d [] t0 n0 [] At ct Ap cp) => rline_to ⟨d, [], t0, n0, []⟩ l At ct Ap cp h.bt h.op.bs)
        simp only [List.length_nil] at hL
        go_wp2_with (first | (go_at_call 46; refine (rk_at d _).mono ?_; rw [ehk.out]; rintro e w2 ⟨rfl, rfl⟩; dsimp only) | (go_at_call 47; refine (rn_at d _).mono ?_; rw [ehn.out]; rintro e w2 ⟨rfl, rfl⟩; dsimp only) | (go_at_call 49; refine (rt_at d _).mono ?_; rw [eht.out]; rintro e w2 ⟨rfl, rfl⟩; dsimp only) | (with_reducible refine wl_run rfl (ex_load _ 3 _ (.int .i64 d) rfl ⟨w1.heap.size, 0, none⟩ U3 rfl rfl hV.out.av.c0) ?_) | ((with_reducible refine wl_run rfl (ex_eql _ 3 3 (.tmp 41) (.const (.int .i64 0)) rfl .i64 d 0 rfl rfl _ ez.out) ?_); simp only [Act.put, uA, uB, uC]) | (go_at_call 53; (with_reducible refine (rcut_to hW1.out hR2.out lR1.out _).mono ?_); rintro e w2 ⟨⟨bb, rfl⟩, hk1⟩; have hV2 := Hd.mk (hV.out.keep hk1); clear hV; have hV := hV2; clear hV2 hk1; dsimp only) | (go_at_call 54; (with_reducible refine (dig_to hn0.out lW1.out _).mono ?_); rintro e w2 ⟨rfl, rfl⟩; dsimp only) | ((with_reducible refine wl_setn rfl (.tmp 73) (.tmp 72) rfl hV.out n0 rfl rfl ?_); intro w2 hV2; have hV2 := Hd.mk hV2; clear hV; have hV := hV2; clear hV2; simp only [Act.put, uA, uB, uC]) | (go_at_call 15; (with_reducible refine (runq_to R2 true ht0.out lR2.out _).mono ?_); rintro e w2 ⟨⟨Aq, cq, er, rfl, hb, hf⟩, hk1⟩; have hf2 : Hd (∀ b, (Value.slice Aq _ cq).ownBlock = some b → w1.heap.size < b) := ⟨fun b h => Nat.lt_of_lt_of_le hV.out.av.lt (hf b h)⟩; have hb := Hd.mk hb; have hV2 := Hd.mk (hV.out.keep hk1); clear hV; have hV := hV2; clear hV2 hk1; dsimp only) | ((with_reducible refine wl_sett rfl (.tmp 83) (.tmp 81) rfl hV.out Aq cq t0 rfl rfl hb.out hf2.out ?_); intro w2 hV2; have hV2 := Hd.mk hV2; clear hV; have hV := hV2; clear hV2; simp only [Act.put, uA, uB, uC]))
        go_loopw [5] (fun v5 w3 => v5 = .string ⟨R2.toArray⟩ ∧ Hd (Aw w w3 w.heap.size w1.heap.size d [] t0 n0 [] Aq cq none 0)) (fun _ _ => 0)
        case atStart => exact ⟨rfl, hV⟩
        case round =>
         clear hV
         obtain ⟨rfl, hV⟩ := hrel
         go_wp2_with (first | (with_reducible refine wl_run rfl (ex_load _ 3 _ (.int .i64 d) rfl ⟨w1.heap.size, 0, none⟩ U3 rfl rfl hV.out.av.c0) ?_) | ((with_reducible refine wl_run rfl (ex_eql _ 3 3 (.tmp 85) (.const (.int .i64 12)) rfl .i64 d 12 rfl rfl _ ecr.out) ?_); simp only [Act.put, uA, uB, uC]) | ((with_reducible refine wl_run rfl (ex_act _ rfl hV.out rfl) ?_); simp only [Act.put, uA, uB, uC]) | (go_at_call 10; (with_reducible refine (hL.out _ _ _ _ _ hV.out).mono ?_); rintro e w2 ⟨hc, hk1⟩; have hV2 := Hd.mk (hV.out.keep hk1); clear hV; have hV := hV2; clear hV2 hk1; rcases hc with ⟨rfl, hy⟩ | ⟨s, rfl, hs, hy⟩ | ⟨rfl, hy⟩ <;> (have hy := Hd.mk hy; try have hs := Hd.mk hs) <;> dsimp only) | ((with_reducible refine wl_runG ?hw (ex_sneq _ 9 9 (.tmp 128) (.tmp 129) rfl l l false hself.out rfl rfl) ?_); (case hw => rfl); simp only [Act.put, uA, uB, uC]) | ((with_reducible refine wl_runG ?hw (ex_sneq _ 9 9 (.tmp 128) (.tmp 129) rfl s l true hs.out rfl rfl) ?_); (case hw => rfl); simp only [Act.put, uA, uB, uC]) | ((with_reducible refine wl_res rfl (.tmp 2) (.tmp 133) rfl hV.out [.int .i64 d, .string ⟨([] : List UInt8).toArray⟩, .slice Aq t0.length cq, .int .i64 n0, .slice none 0 0] rfl rfl rfl one5 ?_); intro w2 hZ hKK hBT hBP; have hZ := Hd.mk hZ; have hKK := Hd.mk hKK; have hBT := Hd.mk hBT; have hBP := Hd.mk hBP; simp only [Act.put, uA, uB, uC]) | ((with_reducible refine wl_res rfl (.tmp 2) (.tmp 132) rfl hV.out Z5 rfl rfl rfl one5 ?_); intro w2 hZ hKK hBT hBP; have hZ := Hd.mk hZ; have hKK := Hd.mk hKK; have hBT := Hd.mk hBT; have hBP := Hd.mk hBP; simp only [Act.put, uA, uB, uC]))
         ·refine bodyPost_ret (results_act rfl _ _ w.heap.size _ rfl hZ.out rfl) rfl ?_
          exact ⟨⟨⟨d, [], t0, n0, []⟩, Aq, cq, none, 0, true, rfl, says_yes hy.out.1 hy.out.2, (fun h => by cases h), hBT.out, hBP.out⟩, hKK.out⟩
         ·refine bodyPost_ret (results_act rfl _ _ w.heap.size _ rfl hZ.out rfl) rfl ?_
          exact ⟨⟨⟨0, [], [], 0, []⟩, none, 0, none, 0, false, rfl, says_no (says_R hM.out (by rw [hR1.out]; exact hrd.out)) hy.out, (fun _ => rfl), BsF.nil _ _, BsF.nil _ _⟩, hKK.out⟩
         ·refine bodyPost_ret (results_act rfl _ _ w.heap.size _ rfl hZ.out rfl) rfl ?_
          exact ⟨⟨⟨0, [], [], 0, []⟩, none, 0, none, 0, false, rfl, says_no (says_R hM.out (by rw [hR1.out]; exact hrd.out)) hy.out, (fun _ => rfl), BsF.nil _ _, BsF.nil _ _⟩, hKK.out⟩
     ·cases hnd
      ·cases htd
       ·obtain ⟨W2, hW2⟩ : ∃ x, Hd (wd R1 = x) := ⟨_, ⟨rfl⟩⟩
        obtain ⟨R3, hR3⟩ : ∃ x, Hd (rs R1 = x) := ⟨_, ⟨rfl⟩⟩
        obtain ⟨k0, hk0⟩ : ∃ x, Hd ((uq false W2).getD [] = x) := ⟨_, ⟨rfl⟩⟩
        have lW2 : Hd (W2.length < 70000) := ⟨by rw [← hW2.out]; exact Nat.lt_of_le_of_lt (wd_length _) lR1.out⟩
        have lR3 : Hd (R3.length < 70000) := ⟨by rw [← hR3.out]; exact Nat.lt_of_le_of_lt (rs_length _) lR1.out⟩
        have hrd : Hd (readR d R1 = some ⟨d, k0, [], 0, []⟩) := ⟨by simp only [readR, ehk.out, ehn.out, eht.out, ne12 ecr.out, Bool.false_eq_true, if_false, if_true, Option.map_some, hW2.out, hR3.out, hk0.out]⟩
        have hL := Hd.mk (fun (w2 : World) (At : Option Addr) (ct : Nat) (Ap : Option Addr) (cp : Nat) (h : Aw w w2 w.heap.size w1.heap.size d k0 [] 0 [] At ct Ap cp) => rline_to ⟨d, k0, [], 0, []⟩ l At ct Ap cp h.bt h.op.bs)
        simp only [List.length_nil] at hL
        go_wp2_with (first | (go_at_call 46; refine (rk_at d _).mono ?_; rw [ehk.out]; rintro e w2 ⟨rfl, rfl⟩; dsimp only) | (go_at_call 47; refine (rn_at d _).mono ?_; rw [ehn.out]; rintro e w2 ⟨rfl, rfl⟩; dsimp only) | (go_at_call 49; refine (rt_at d _).mono ?_; rw [eht.out]; rintro e w2 ⟨rfl, rfl⟩; dsimp only) | (with_reducible refine wl_run rfl (ex_load _ 3 _ (.int .i64 d) rfl ⟨w1.heap.size, 0, none⟩ U3 rfl rfl hV.out.av.c0) ?_) | ((with_reducible refine wl_run rfl (ex_eql _ 3 3 (.tmp 41) (.const (.int .i64 0)) rfl .i64 d 0 rfl rfl _ ez.out) ?_); simp only [Act.put, uA, uB, uC]) | (go_at_call 53; (with_reducible refine (rcut_to hW2.out hR3.out lR1.out _).mono ?_); rintro e w2 ⟨⟨bb, rfl⟩, hk1⟩; have hV2 := Hd.mk (hV.out.keep hk1); clear hV; have hV := hV2; clear hV2 hk1; dsimp only) | (go_at_call 15; (with_reducible refine (runq_to W2 false hk0.out lW2.out _).mono ?_); rintro e w2 ⟨⟨Aq, cq, er, rfl, hb, hf⟩, hk1⟩; have hf2 : Hd (∀ b, (Value.slice Aq _ cq).ownBlock = some b → w1.heap.size < b) := ⟨fun b h => Nat.lt_of_lt_of_le hV.out.av.lt (hf b h)⟩; have hb := Hd.mk hb; have hV2 := Hd.mk (hV.out.keep hk1); clear hV; have hV := hV2; clear hV2 hk1; dsimp only) | ((with_reducible refine wl_run rfl (ex_tostr _ 22 9 5 (.tmp 58) rfl U22 U5 U9 (.slice Aq k0.length cq) k0 hb.out rfl) ?_); simp only [Act.put, uA, uB, uC]) | ((with_reducible refine wl_setk rfl (.tmp 60) (.tmp 59) rfl hV.out k0 rfl rfl ?_); intro w2 hV2; have hV2 := Hd.mk hV2; clear hV; have hV := hV2; clear hV2; simp only [Act.put, uA, uB, uC]))
        go_loopw [5] (fun v5 w3 => v5 = .string ⟨R3.toArray⟩ ∧ Hd (Aw w w3 w.heap.size w1.heap.size d k0 [] 0 [] none 0 none 0)) (fun _ _ => 0)
        case atStart => exact ⟨rfl, hV⟩
        case round =>
         clear hV
         obtain ⟨rfl, hV⟩ := hrel
         go_wp2_with (first | (with_reducible refine wl_run rfl (ex_load _ 3 _ (.int .i64 d) rfl ⟨w1.heap.size, 0, none⟩ U3 rfl rfl hV.out.av.c0) ?_) | ((with_reducible refine wl_run rfl (ex_eql _ 3 3 (.tmp 85) (.const (.int .i64 12)) rfl .i64 d 12 rfl rfl _ ecr.out) ?_); simp only [Act.put, uA, uB, uC]) | ((with_reducible refine wl_run rfl (ex_act _ rfl hV.out rfl) ?_); simp only [Act.put, uA, uB, uC]) | (go_at_call 10; (with_reducible refine (hL.out _ _ _ _ _ hV.out).mono ?_); rintro e w2 ⟨hc, hk1⟩; have hV2 := Hd.mk (hV.out.keep hk1); clear hV; have hV := hV2; clear hV2 hk1; rcases hc with ⟨rfl, hy⟩ | ⟨s, rfl, hs, hy⟩ | ⟨rfl, hy⟩ <;> (have hy := Hd.mk hy; try have hs := Hd.mk hs) <;> dsimp only) | ((with_reducible refine wl_runG ?hw (ex_sneq _ 9 9 (.tmp 128) (.tmp 129) rfl l l false hself.out rfl rfl) ?_); (case hw => rfl); simp only [Act.put, uA, uB, uC]) | ((with_reducible refine wl_runG ?hw (ex_sneq _ 9 9 (.tmp 128) (.tmp 129) rfl s l true hs.out rfl rfl) ?_); (case hw => rfl); simp only [Act.put, uA, uB, uC]) | ((with_reducible refine wl_res rfl (.tmp 2) (.tmp 133) rfl hV.out [.int .i64 d, .string ⟨(k0 : List UInt8).toArray⟩, .slice none 0 0, .int .i64 0, .slice none 0 0] rfl rfl rfl one5 ?_); intro w2 hZ hKK hBT hBP; have hZ := Hd.mk hZ; have hKK := Hd.mk hKK; have hBT := Hd.mk hBT; have hBP := Hd.mk hBP; simp only [Act.put, uA, uB, uC]) | ((with_reducible refine wl_res rfl (.tmp 2) (.tmp 132) rfl hV.out Z5 rfl rfl rfl one5 ?_); intro w2 hZ hKK hBT hBP; have hZ := Hd.mk hZ; have hKK := Hd.mk hKK; have hBT := Hd.mk hBT; have hBP := Hd.mk hBP; simp only [Act.put, uA, uB, uC]))
         ·refine bodyPost_ret (results_act rfl _ _ w.heap.size _ rfl hZ.out rfl) rfl ?_
          exact ⟨⟨⟨d, k0, [], 0, []⟩, none, 0, none, 0, true, rfl, says_yes hy.out.1 hy.out.2, (fun h => by cases h), hBT.out, hBP.out⟩, hKK.out⟩
         ·refine bodyPost_ret (results_act rfl _ _ w.heap.size _ rfl hZ.out rfl) rfl ?_
          exact ⟨⟨⟨0, [], [], 0, []⟩, none, 0, none, 0, false, rfl, says_no (says_R hM.out (by rw [hR1.out]; exact hrd.out)) hy.out, (fun _ => rfl), BsF.nil _ _, BsF.nil _ _⟩, hKK.out⟩
         ·refine bodyPost_ret (results_act rfl _ _ w.heap.size _ rfl hZ.out rfl) rfl ?_
          exact ⟨⟨⟨0, [], [], 0, []⟩, none, 0, none, 0, false, rfl, says_no (says_R hM.out (by rw [hR1.out]; exact hrd.out)) hy.out, (fun _ => rfl), BsF.nil _ _, BsF.nil _ _⟩, hKK.out⟩
       ·obtain ⟨W2, hW2⟩ : ∃ x, Hd (wd R1 = x) := ⟨_, ⟨rfl⟩⟩
        obtain ⟨R3, hR3⟩ : ∃ x, Hd (rs R1 = x) := ⟨_, ⟨rfl⟩⟩
        obtain ⟨k0, hk0⟩ : ∃ x, Hd ((uq false W2).getD [] = x) := ⟨_, ⟨rfl⟩⟩
        have lW2 : Hd (W2.length < 70000) := ⟨by rw [← hW2.out]; exact Nat.lt_of_le_of_lt (wd_length _) lR1.out⟩
        have lR3 : Hd (R3.length < 70000) := ⟨by rw [← hR3.out]; exact Nat.lt_of_le_of_lt (rs_length _) lR1.out⟩
        obtain ⟨t0, ht0⟩ : ∃ x, Hd ((uq true R3).getD [] = x) := ⟨_, ⟨rfl⟩⟩
        have hrd : Hd (readR d R1 = some ⟨d, k0, t0, 0, []⟩) := ⟨by simp only [readR, ehk.out, ehn.out, eht.out, ne12 ecr.out, Bool.false_eq_true, if_false, if_true, Option.map_some, hW2.out, hR3.out, hk0.out, ht0.out]⟩
        have hL := Hd.mk (fun (w2 : World) (At : Option Addr) (ct : Nat) (Ap : Option Addr) (cp : Nat) (h : Aw w w2 w.heap.size w1.heap.size d k0 t0 0 [] At ct Ap cp) => rline_to ⟨d, k0, t0, 0, []⟩ l At ct Ap cp h.bt h.op.bs)
        simp only [List.length_nil] at hL
        go_wp2_with (first | (go_at_call 46; refine (rk_at d _).mono ?_; rw [ehk.out]; rintro e w2 ⟨rfl, rfl⟩; dsimp only) | (go_at_call 47; refine (rn_at d _).mono ?_; rw [ehn.out]; rintro e w2 ⟨rfl, rfl⟩; dsimp only) | (go_at_call 49; refine (rt_at d _).mono ?_; rw [eht.out]; rintro e w2 ⟨rfl, rfl⟩; dsimp only) | (with_reducible refine wl_run rfl (ex_load _ 3 _ (.int .i64 d) rfl ⟨w1.heap.size, 0, none⟩ U3 rfl rfl hV.out.av.c0) ?_) | ((with_reducible refine wl_run rfl (ex_eql _ 3 3 (.tmp 41) (.const (.int .i64 0)) rfl .i64 d 0 rfl rfl _ ez.out) ?_); simp only [Act.put, uA, uB, uC]) | (go_at_call 53; (with_reducible refine (rcut_to hW2.out hR3.out lR1.out _).mono ?_); rintro e w2 ⟨⟨bb, rfl⟩, hk1⟩; have hV2 := Hd.mk (hV.out.keep hk1); clear hV; have hV := hV2; clear hV2 hk1; dsimp only) | (go_at_call 15; (with_reducible refine (runq_to W2 false hk0.out lW2.out _).mono ?_); rintro e w2 ⟨⟨Aq, cq, er, rfl, hb, hf⟩, hk1⟩; have hf2 : Hd (∀ b, (Value.slice Aq _ cq).ownBlock = some b → w1.heap.size < b) := ⟨fun b h => Nat.lt_of_lt_of_le hV.out.av.lt (hf b h)⟩; have hb := Hd.mk hb; have hV2 := Hd.mk (hV.out.keep hk1); clear hV; have hV := hV2; clear hV2 hk1; dsimp only) | ((with_reducible refine wl_run rfl (ex_tostr _ 22 9 5 (.tmp 58) rfl U22 U5 U9 (.slice Aq k0.length cq) k0 hb.out rfl) ?_); simp only [Act.put, uA, uB, uC]) | ((with_reducible refine wl_setk rfl (.tmp 60) (.tmp 59) rfl hV.out k0 rfl rfl ?_); intro w2 hV2; have hV2 := Hd.mk hV2; clear hV; have hV := hV2; clear hV2; simp only [Act.put, uA, uB, uC]) | (go_at_call 15; (with_reducible refine (runq_to R3 true ht0.out lR3.out _).mono ?_); rintro e w2 ⟨⟨Aq, cq, er, rfl, hb, hf⟩, hk1⟩; have hf2 : Hd (∀ b, (Value.slice Aq _ cq).ownBlock = some b → w1.heap.size < b) := ⟨fun b h => Nat.lt_of_lt_of_le hV.out.av.lt (hf b h)⟩; have hb := Hd.mk hb; have hV2 := Hd.mk (hV.out.keep hk1); clear hV; have hV := hV2; clear hV2 hk1; dsimp only) | ((with_reducible refine wl_sett rfl (.tmp 83) (.tmp 81) rfl hV.out Aq cq t0 rfl rfl hb.out hf2.out ?_); intro w2 hV2; have hV2 := Hd.mk hV2; clear hV; have hV := hV2; clear hV2; simp only [Act.put, uA, uB, uC]))
        go_loopw [5] (fun v5 w3 => v5 = .string ⟨R3.toArray⟩ ∧ Hd (Aw w w3 w.heap.size w1.heap.size d k0 t0 0 [] Aq cq none 0)) (fun _ _ => 0)
        case atStart => exact ⟨rfl, hV⟩
        case round =>
         clear hV
         obtain ⟨rfl, hV⟩ := hrel
         go_wp2_with (first | (with_reducible refine wl_run rfl (ex_load _ 3 _ (.int .i64 d) rfl ⟨w1.heap.size, 0, none⟩ U3 rfl rfl hV.out.av.c0) ?_) | ((with_reducible refine wl_run rfl (ex_eql _ 3 3 (.tmp 85) (.const (.int .i64 12)) rfl .i64 d 12 rfl rfl _ ecr.out) ?_); simp only [Act.put, uA, uB, uC]) | ((with_reducible refine wl_run rfl (ex_act _ rfl hV.out rfl) ?_); simp only [Act.put, uA, uB, uC]) | (go_at_call 10; (with_reducible refine (hL.out _ _ _ _ _ hV.out).mono ?_); rintro e w2 ⟨hc, hk1⟩; have hV2 := Hd.mk (hV.out.keep hk1); clear hV; have hV := hV2; clear hV2 hk1; rcases hc with ⟨rfl, hy⟩ | ⟨s, rfl, hs, hy⟩ | ⟨rfl, hy⟩ <;> (have hy := Hd.mk hy; try have hs := Hd.mk hs) <;> dsimp only) | ((with_reducible refine wl_runG ?hw (ex_sneq _ 9 9 (.tmp 128) (.tmp 129) rfl l l false hself.out rfl rfl) ?_); (case hw => rfl); simp only [Act.put, uA, uB, uC]) | ((with_reducible refine wl_runG ?hw (ex_sneq _ 9 9 (.tmp 128) (.tmp 129) rfl s l true hs.out rfl rfl) ?_); (case hw => rfl); simp only [Act.put, uA, uB, uC]) | ((with_reducible refine wl_res rfl (.tmp 2) (.tmp 133) rfl hV.out [.int .i64 d, .string ⟨(k0 : List UInt8).toArray⟩, .slice Aq t0.length cq, .int .i64 0, .slice none 0 0] rfl rfl rfl one5 ?_); intro w2 hZ hKK hBT hBP; have hZ := Hd.mk hZ; have hKK := Hd.mk hKK; have hBT := Hd.mk hBT; have hBP := Hd.mk hBP; simp only [Act.put, uA, uB, uC]) | ((with_reducible refine wl_res rfl (.tmp 2) (.tmp 132) rfl hV.out Z5 rfl rfl rfl one5 ?_); intro w2 hZ hKK hBT hBP; have hZ := Hd.mk hZ; have hKK := Hd.mk hKK; have hBT := Hd.mk hBT; have hBP := Hd.mk hBP; simp only [Act.put, uA, uB, uC]))
         ·refine bodyPost_ret (results_act rfl _ _ w.heap.size _ rfl hZ.out rfl) rfl ?_
          exact ⟨⟨⟨d, k0, t0, 0, []⟩, Aq, cq, none, 0, true, rfl, says_yes hy.out.1 hy.out.2, (fun h => by cases h), hBT.out, hBP.out⟩, hKK.out⟩
         ·refine bodyPost_ret (results_act rfl _ _ w.heap.size _ rfl hZ.out rfl) rfl ?_
          exact ⟨⟨⟨0, [], [], 0, []⟩, none, 0, none, 0, false, rfl, says_no (says_R hM.out (by rw [hR1.out]; exact hrd.out)) hy.out, (fun _ => rfl), BsF.nil _ _, BsF.nil _ _⟩, hKK.out⟩
         ·refine bodyPost_ret (results_act rfl _ _ w.heap.size _ rfl hZ.out rfl) rfl ?_
          exact ⟨⟨⟨0, [], [], 0, []⟩, none, 0, none, 0, false, rfl, says_no (says_R hM.out (by rw [hR1.out]; exact hrd.out)) hy.out, (fun _ => rfl), BsF.nil _ _, BsF.nil _ _⟩, hKK.out⟩
      ·cases htd
       ·exact absurd ehk.out (by have := ehn.out; intro h; simp [hk, hn] at this h; omega)
       ·exact absurd ehk.out (by have := ehn.out; intro h; simp [hk, hn] at this h; omega)
    ·have h12 : d = 12 := of_decide_eq_true ecr.out
     have : hnd = false := by rw [← ehn.out, h12]; rfl
     subst this
     have : hkd = false := by rw [← ehk.out, h12]; rfl
     subst this
     have : htd = false := by rw [← eht.out, h12]; rfl
     subst this
     clear h12
     go_wp2_with (first | (go_at_call 46; refine (rk_at d _).mono ?_; rw [ehk.out]; rintro e w2 ⟨rfl, rfl⟩; dsimp only) | (go_at_call 47; refine (rn_at d _).mono ?_; rw [ehn.out]; rintro e w2 ⟨rfl, rfl⟩; dsimp only) | (go_at_call 49; refine (rt_at d _).mono ?_; rw [eht.out]; rintro e w2 ⟨rfl, rfl⟩; dsimp only) | (with_reducible refine wl_run rfl (ex_load _ 3 _ (.int .i64 d) rfl ⟨w1.heap.size, 0, none⟩ U3 rfl rfl hV.out.av.c0) ?_) | ((with_reducible refine wl_run rfl (ex_eql _ 3 3 (.tmp 41) (.const (.int .i64 0)) rfl .i64 d 0 rfl rfl _ ez.out) ?_); simp only [Act.put, uA, uB, uC]))
     go_loopw [5] (fun v5 w3 => ∃ (r q : List UInt8) (Ap : Option Addr) (cp : Nat), v5 = .string ⟨r.toArray⟩ ∧ Hd (r.length < 70000) ∧ Hd (Pr R1 r q) ∧ Hd (Aw w w3 w.heap.size w1.heap.size d [] [] 0 q none 0 Ap cp)) (fun v5 _ => lenOf v5)
     case atStart => exact ⟨R1, [], none, 0, rfl, lR1, ⟨Pr.start _⟩, hV⟩
     case round =>
      clear hV
      obtain ⟨r, q, Ap, cp, rfl, lr, hP, hV⟩ := hrel
      obtain ⟨yr, er⟩ : ∃ b, Hd ((r != []) = b) := ⟨_, ⟨rfl⟩⟩
      obtain ⟨yl, el⟩ : ∃ b, Hd (decide ((q.length : Int) ≤ 200) = b) := ⟨_, ⟨rfl⟩⟩
      cases yr
      ·have hrd : Hd (readR d R1 = some ⟨d, [], [], 0, q⟩) := ⟨readR_12 ehk.out ehn.out eht.out ecr.out (hP.out.done (.inl (by simpa using er.out)))⟩
       have hL := Hd.mk (fun (w2 : World) (At : Option Addr) (ct : Nat) (Ap : Option Addr) (cp : Nat) (h : Aw w w2 w.heap.size w1.heap.size d [] [] 0 q At ct Ap cp) => rline_to ⟨d, [], [], 0, q⟩ l At ct Ap cp h.bt h.op.bs)
       simp only [List.length_nil] at hL
       go_wp2_with (first | (with_reducible refine wl_run rfl (ex_load _ 3 _ (.int .i64 d) rfl ⟨w1.heap.size, 0, none⟩ U3 rfl rfl hV.out.av.c0) ?_) | ((with_reducible refine wl_run rfl (ex_eql _ 3 3 (.tmp 85) (.const (.int .i64 12)) rfl .i64 d 12 rfl rfl _ ecr.out) ?_); simp only [Act.put, uA, uB, uC]) | ((with_reducible refine wl_runG ?hw (ex_sneq _ 9 9 (.tmp 88) (.const (.string ⟨#[]⟩)) rfl r [] _ er.out rfl rfl) ?_); (case hw => rfl); simp only [Act.put, uA, uB, uC]) | ((with_reducible refine wl_run rfl (ex_act _ rfl hV.out rfl) ?_); simp only [Act.put, uA, uB, uC]) | (go_at_call 10; (with_reducible refine (hL.out _ _ _ _ _ hV.out).mono ?_); rintro e w2 ⟨hc, hk1⟩; have hV2 := Hd.mk (hV.out.keep hk1); clear hV; have hV := hV2; clear hV2 hk1; rcases hc with ⟨rfl, hy⟩ | ⟨s, rfl, hs, hy⟩ | ⟨rfl, hy⟩ <;> (have hy := Hd.mk hy; try have hs := Hd.mk hs) <;> dsimp only) | ((with_reducible refine wl_runG ?hw (ex_sneq _ 9 9 (.tmp 128) (.tmp 129) rfl l l false hself.out rfl rfl) ?_); (case hw => rfl); simp only [Act.put, uA, uB, uC]) | ((with_reducible refine wl_runG ?hw (ex_sneq _ 9 9 (.tmp 128) (.tmp 129) rfl s l true hs.out rfl rfl) ?_); (case hw => rfl); simp only [Act.put, uA, uB, uC]) | ((with_reducible refine wl_res rfl (.tmp 2) (.tmp 133) rfl hV.out [.int .i64 d, .string ⟨([] : List UInt8).toArray⟩, .slice none 0 0, .int .i64 0, .slice Ap q.length cp] rfl rfl rfl one5 ?_); intro w2 hZ hKK hBT hBP; have hZ := Hd.mk hZ; have hKK := Hd.mk hKK; have hBT := Hd.mk hBT; have hBP := Hd.mk hBP; simp only [Act.put, uA, uB, uC]) | ((with_reducible refine wl_res rfl (.tmp 2) (.tmp 132) rfl hV.out Z5 rfl rfl rfl one5 ?_); intro w2 hZ hKK hBT hBP; have hZ := Hd.mk hZ; have hKK := Hd.mk hKK; have hBT := Hd.mk hBT; have hBP := Hd.mk hBP; simp only [Act.put, uA, uB, uC]))
       ·refine bodyPost_ret (results_act rfl _ _ w.heap.size _ rfl hZ.out rfl) rfl ?_
        exact ⟨⟨⟨d, [], [], 0, q⟩, none, 0, Ap, cp, true, rfl, says_yes hy.out.1 hy.out.2, (fun h => by cases h), hBT.out, hBP.out⟩, hKK.out⟩
       ·refine bodyPost_ret (results_act rfl _ _ w.heap.size _ rfl hZ.out rfl) rfl ?_
        exact ⟨⟨⟨0, [], [], 0, []⟩, none, 0, none, 0, false, rfl, says_no (says_R hM.out (by rw [hR1.out]; exact hrd.out)) hy.out, (fun _ => rfl), BsF.nil _ _, BsF.nil _ _⟩, hKK.out⟩
       ·refine bodyPost_ret (results_act rfl _ _ w.heap.size _ rfl hZ.out rfl) rfl ?_
        exact ⟨⟨⟨0, [], [], 0, []⟩, none, 0, none, 0, false, rfl, says_no (says_R hM.out (by rw [hR1.out]; exact hrd.out)) hy.out, (fun _ => rfl), BsF.nil _ _, BsF.nil _ _⟩, hKK.out⟩
      ·cases yl
       ·have hrd : Hd (readR d R1 = some ⟨d, [], [], 0, q⟩) := ⟨readR_12 ehk.out ehn.out eht.out ecr.out (hP.out.done (.inr (by have := hP.out.most; have := of_decide_eq_false el.out; omega)))⟩
        have hL := Hd.mk (fun (w2 : World) (At : Option Addr) (ct : Nat) (Ap : Option Addr) (cp : Nat) (h : Aw w w2 w.heap.size w1.heap.size d [] [] 0 q At ct Ap cp) => rline_to ⟨d, [], [], 0, q⟩ l At ct Ap cp h.bt h.op.bs)
        simp only [List.length_nil] at hL
        go_wp2_with (first | (with_reducible refine wl_run rfl (ex_load _ 3 _ (.int .i64 d) rfl ⟨w1.heap.size, 0, none⟩ U3 rfl rfl hV.out.av.c0) ?_) | ((with_reducible refine wl_run rfl (ex_eql _ 3 3 (.tmp 85) (.const (.int .i64 12)) rfl .i64 d 12 rfl rfl _ ecr.out) ?_); simp only [Act.put, uA, uB, uC]) | ((with_reducible refine wl_runG ?hw (ex_sneq _ 9 9 (.tmp 88) (.const (.string ⟨#[]⟩)) rfl r [] _ er.out rfl rfl) ?_); (case hw => rfl); simp only [Act.put, uA, uB, uC]) | ((with_reducible refine wl_runG ?hw (ex_load _ 22 (.tmp 92) (.slice Ap q.length cp) rfl ⟨w1.heap.size, 4, none⟩ U22 rfl rfl hV.out.av.c4) ?_); (case hw => rfl)) | ((with_reducible refine wl_runG ?hw (ex_leq _ 3 3 (.tmp 94) (.const (.int .i64 200)) rfl .i64 (q.length : Int) 200 rfl rfl _ el.out) ?_); (case hw => rfl); simp only [Act.put, uA, uB, uC]) | ((with_reducible refine wl_run rfl (ex_act _ rfl hV.out rfl) ?_); simp only [Act.put, uA, uB, uC]) | (go_at_call 10; (with_reducible refine (hL.out _ _ _ _ _ hV.out).mono ?_); rintro e w2 ⟨hc, hk1⟩; have hV2 := Hd.mk (hV.out.keep hk1); clear hV; have hV := hV2; clear hV2 hk1; rcases hc with ⟨rfl, hy⟩ | ⟨s, rfl, hs, hy⟩ | ⟨rfl, hy⟩ <;> (have hy := Hd.mk hy; try have hs := Hd.mk hs) <;> dsimp only) | ((with_reducible refine wl_runG ?hw (ex_sneq _ 9 9 (.tmp 128) (.tmp 129) rfl l l false hself.out rfl rfl) ?_); (case hw => rfl); simp only [Act.put, uA, uB, uC]) | ((with_reducible refine wl_runG ?hw (ex_sneq _ 9 9 (.tmp 128) (.tmp 129) rfl s l true hs.out rfl rfl) ?_); (case hw => rfl); simp only [Act.put, uA, uB, uC]) | ((with_reducible refine wl_res rfl (.tmp 2) (.tmp 133) rfl hV.out [.int .i64 d, .string ⟨([] : List UInt8).toArray⟩, .slice none 0 0, .int .i64 0, .slice Ap q.length cp] rfl rfl rfl one5 ?_); intro w2 hZ hKK hBT hBP; have hZ := Hd.mk hZ; have hKK := Hd.mk hKK; have hBT := Hd.mk hBT; have hBP := Hd.mk hBP; simp only [Act.put, uA, uB, uC]) | ((with_reducible refine wl_res rfl (.tmp 2) (.tmp 132) rfl hV.out Z5 rfl rfl rfl one5 ?_); intro w2 hZ hKK hBT hBP; have hZ := Hd.mk hZ; have hKK := Hd.mk hKK; have hBT := Hd.mk hBT; have hBP := Hd.mk hBP; simp only [Act.put, uA, uB, uC]))
        ·refine bodyPost_ret (results_act rfl _ _ w.heap.size _ rfl hZ.out rfl) rfl ?_
         exact ⟨⟨⟨d, [], [], 0, q⟩, none, 0, Ap, cp, true, rfl, says_yes hy.out.1 hy.out.2, (fun h => by cases h), hBT.out, hBP.out⟩, hKK.out⟩
        ·refine bodyPost_ret (results_act rfl _ _ w.heap.size _ rfl hZ.out rfl) rfl ?_
         exact ⟨⟨⟨0, [], [], 0, []⟩, none, 0, none, 0, false, rfl, says_no (says_R hM.out (by rw [hR1.out]; exact hrd.out)) hy.out, (fun _ => rfl), BsF.nil _ _, BsF.nil _ _⟩, hKK.out⟩
        ·refine bodyPost_ret (results_act rfl _ _ w.heap.size _ rfl hZ.out rfl) rfl ?_
         exact ⟨⟨⟨0, [], [], 0, []⟩, none, 0, none, 0, false, rfl, says_no (says_R hM.out (by rw [hR1.out]; exact hrd.out)) hy.out, (fun _ => rfl), BsF.nil _ _, BsF.nil _ _⟩, hKK.out⟩
       ·have hr : Hd (r ≠ []) := ⟨by simpa using er.out⟩
        have hq : Hd (q.length ≤ 200) := ⟨by have := of_decide_eq_true el.out; omega⟩
        obtain ⟨W3, hW3⟩ : ∃ x, Hd (wd r = x) := ⟨_, ⟨rfl⟩⟩
        obtain ⟨R4, hR4⟩ : ∃ x, Hd (rs r = x) := ⟨_, ⟨rfl⟩⟩
        obtain ⟨nx, hnx⟩ : ∃ x, Hd (dig W3 = x) := ⟨_, ⟨rfl⟩⟩
        have lW3 : Hd (W3.length < 70000) := ⟨by rw [← hW3.out]; exact Nat.lt_of_le_of_lt (wd_length _) lr.out⟩
        have lR4 : Hd (R4.length < 70000) := ⟨by rw [← hR4.out]; exact Nat.lt_of_le_of_lt (rs_length _) lr.out⟩
        have lt4 : Hd (R4.length < r.length) := ⟨by rw [← hR4.out]; exact rs_lt hr.out⟩
        have hnw : Hd (dig (wd r) = nx) := ⟨by rw [hW3.out, hnx.out]⟩
        obtain ⟨y1, f1⟩ : ∃ b, Hd (decide (nx < 0) = b) := ⟨_, ⟨rfl⟩⟩
        obtain ⟨y2, f2⟩ : ∃ b, Hd (decide (255 < nx) = b) := ⟨_, ⟨rfl⟩⟩
        cases y1
        ·cases y2
         ·obtain ⟨u, hu⟩ : ∃ u : UInt8, Hd (nx.toNat.toUInt8 = u) := ⟨_, ⟨rfl⟩⟩
          have hz : Hd (nx % 256 = (u.toNat : Int)) := ⟨by have h1 := of_decide_eq_false f1.out; have h2 := of_decide_eq_false f2.out; rw [← hu.out]; simp; omega⟩
          obtain ⟨q2, hqq⟩ : ∃ x, Hd (q ++ [u] = x) := ⟨_, ⟨rfl⟩⟩
          have hP2 : Hd (Pr R1 R4 q2) := ⟨by have := hP.out.next hr.out hq.out (by rw [hnw.out]; have h1 := of_decide_eq_false f1.out; have h2 := of_decide_eq_false f2.out; omega); rw [hnw.out, hu.out, hqq.out, hR4.out] at this; exact this⟩
          have hql : Hd ((ints q).length + (ints [u]).length ≤ 1000000000000) := ⟨by rw [ints_length, ints_length]; have := hq.out; simp only [List.length_cons, List.length_nil]; omega⟩
          go_wp2_with (first | (with_reducible refine wl_run rfl (ex_load _ 3 _ (.int .i64 d) rfl ⟨w1.heap.size, 0, none⟩ U3 rfl rfl hV.out.av.c0) ?_) | ((with_reducible refine wl_run rfl (ex_eql _ 3 3 (.tmp 85) (.const (.int .i64 12)) rfl .i64 d 12 rfl rfl _ ecr.out) ?_); simp only [Act.put, uA, uB, uC]) | ((with_reducible refine wl_runG ?hw (ex_sneq _ 9 9 (.tmp 88) (.const (.string ⟨#[]⟩)) rfl r [] _ er.out rfl rfl) ?_); (case hw => rfl); simp only [Act.put, uA, uB, uC]) | ((with_reducible refine wl_runG ?hw (ex_load _ 22 (.tmp 92) (.slice Ap q.length cp) rfl ⟨w1.heap.size, 4, none⟩ U22 rfl rfl hV.out.av.c4) ?_); (case hw => rfl)) | ((with_reducible refine wl_runG ?hw (ex_leq _ 3 3 (.tmp 94) (.const (.int .i64 200)) rfl .i64 (q.length : Int) 200 rfl rfl _ el.out) ?_); (case hw => rfl); simp only [Act.put, uA, uB, uC]) | (go_at_call 53; (with_reducible refine (rcut_to hW3.out hR4.out lr.out _).mono ?_); rintro e w2 ⟨⟨bb, rfl⟩, hk1⟩; have hV2 := Hd.mk (hV.out.keep hk1); clear hV; have hV := hV2; clear hV2 hk1; dsimp only) | (go_at_call 54; (with_reducible refine (dig_to hnx.out lW3.out _).mono ?_); rintro e w2 ⟨rfl, rfl⟩; dsimp only) | ((with_reducible refine wl_run rfl (ex_lss _ 3 3 (.tmp 105) (.const (.int .i64 0)) rfl .i64 nx 0 rfl rfl _ f1.out) ?_); simp only [Act.put, uA, uB, uC]) | ((with_reducible refine wl_runG ?hw (ex_gtr _ 3 3 (.tmp 108) (.const (.int .i64 255)) rfl .i64 nx 255 rfl rfl _ f2.out) ?_); (case hw => rfl); simp only [Act.put, uA, uB, uC]) | (with_reducible refine wl_run rfl (ex_load _ 22 (.tmp 112) (.slice Ap q.length cp) rfl ⟨w1.heap.size, 4, none⟩ U22 rfl rfl hV.out.av.c4) ?_) | (with_reducible refine wl_run rfl (ex_tou8z _ 3 5 (.tmp 114) rfl us3.out U5 .i64 nx rfl) ?_) | ((with_reducible refine wl_lit1 rfl (.tmp 115) rfl (nx % 256) rfl ?_); intro v1 w4 hv1 hk1; rw [hz.out] at hv1; have hv1 : Hd (Bs w4 v1 (ints [u])) := ⟨hv1⟩; have hV2 := Hd.mk (hV.out.keep hk1); clear hV; have hV := hV2; clear hV2 hk1) | ((with_reducible refine wl_ob rfl (.tmp 113) (.tmp 116) rfl (.slice Ap q.length cp) (ints q) rfl hV.out.op hV.out.size1 v1 (ints [u]) rfl hv1.out hql.out ?_); intro v2 w5 hv2 hb2; rw [← ints_append, hqq.out] at hv2; obtain ⟨A2, c2, rfl⟩ := ob_slice hv2; have hG := Hd.mk (hV.out.grow hv2 hb2); clear hV hv2 hb2) | ((with_reducible refine wl_setp rfl (.tmp 118) (.tmp 117) rfl hG.out.av (btn.out _) (ftn.out _) A2 c2 q2 rfl rfl hG.out.op ?_); intro w6 hV2 hk2; have hV := Hd.mk hV2; clear hG hV2 hk2; simp only [Act.put, uA, uB, uC]))
          exact ⟨⟨R4, q2, A2, c2, rfl, lR4, hP2, hV⟩, by rw [lenOf_S, lenOf_S]; exact lt4.out⟩
         ·have hrd : Hd (readR d R1 = none) := ⟨readR_12n ehk.out ehn.out eht.out ecr.out (hP.out.bad hr.out hq.out (by rw [hnw.out]; exact .inr (of_decide_eq_true f2.out)))⟩
          go_wp2_with (first | (with_reducible refine wl_run rfl (ex_load _ 3 _ (.int .i64 d) rfl ⟨w1.heap.size, 0, none⟩ U3 rfl rfl hV.out.av.c0) ?_) | ((with_reducible refine wl_run rfl (ex_eql _ 3 3 (.tmp 85) (.const (.int .i64 12)) rfl .i64 d 12 rfl rfl _ ecr.out) ?_); simp only [Act.put, uA, uB, uC]) | ((with_reducible refine wl_runG ?hw (ex_sneq _ 9 9 (.tmp 88) (.const (.string ⟨#[]⟩)) rfl r [] _ er.out rfl rfl) ?_); (case hw => rfl); simp only [Act.put, uA, uB, uC]) | ((with_reducible refine wl_runG ?hw (ex_load _ 22 (.tmp 92) (.slice Ap q.length cp) rfl ⟨w1.heap.size, 4, none⟩ U22 rfl rfl hV.out.av.c4) ?_); (case hw => rfl)) | ((with_reducible refine wl_runG ?hw (ex_leq _ 3 3 (.tmp 94) (.const (.int .i64 200)) rfl .i64 (q.length : Int) 200 rfl rfl _ el.out) ?_); (case hw => rfl); simp only [Act.put, uA, uB, uC]) | (go_at_call 53; (with_reducible refine (rcut_to hW3.out hR4.out lr.out _).mono ?_); rintro e w2 ⟨⟨bb, rfl⟩, hk1⟩; have hV2 := Hd.mk (hV.out.keep hk1); clear hV; have hV := hV2; clear hV2 hk1; dsimp only) | (go_at_call 54; (with_reducible refine (dig_to hnx.out lW3.out _).mono ?_); rintro e w2 ⟨rfl, rfl⟩; dsimp only) | ((with_reducible refine wl_run rfl (ex_lss _ 3 3 (.tmp 105) (.const (.int .i64 0)) rfl .i64 nx 0 rfl rfl _ f1.out) ?_); simp only [Act.put, uA, uB, uC]) | ((with_reducible refine wl_runG ?hw (ex_gtr _ 3 3 (.tmp 108) (.const (.int .i64 255)) rfl .i64 nx 255 rfl rfl _ f2.out) ?_); (case hw => rfl); simp only [Act.put, uA, uB, uC]) | ((with_reducible refine wl_res rfl (.tmp 2) (.tmp 111) rfl hV.out Z5 rfl rfl rfl one5 ?_); intro w2 hZ hKK hBT hBP; have hZ := Hd.mk hZ; have hKK := Hd.mk hKK; have hBT := Hd.mk hBT; have hBP := Hd.mk hBP; simp only [Act.put, uA, uB, uC]))
          refine bodyPost_ret (results_act rfl _ _ w.heap.size _ rfl hZ.out rfl) rfl ?_
          exact ⟨⟨⟨0, [], [], 0, []⟩, none, 0, none, 0, false, rfl, says_R_none hM.out (by rw [hR1.out]; exact hrd.out) _, (fun _ => rfl), BsF.nil _ _, BsF.nil _ _⟩, hKK.out⟩
        ·have hrd : Hd (readR d R1 = none) := ⟨readR_12n ehk.out ehn.out eht.out ecr.out (hP.out.bad hr.out hq.out (by rw [hnw.out]; exact .inl (of_decide_eq_true f1.out)))⟩
         go_wp2_with (first | (with_reducible refine wl_run rfl (ex_load _ 3 _ (.int .i64 d) rfl ⟨w1.heap.size, 0, none⟩ U3 rfl rfl hV.out.av.c0) ?_) | ((with_reducible refine wl_run rfl (ex_eql _ 3 3 (.tmp 85) (.const (.int .i64 12)) rfl .i64 d 12 rfl rfl _ ecr.out) ?_); simp only [Act.put, uA, uB, uC]) | ((with_reducible refine wl_runG ?hw (ex_sneq _ 9 9 (.tmp 88) (.const (.string ⟨#[]⟩)) rfl r [] _ er.out rfl rfl) ?_); (case hw => rfl); simp only [Act.put, uA, uB, uC]) | ((with_reducible refine wl_runG ?hw (ex_load _ 22 (.tmp 92) (.slice Ap q.length cp) rfl ⟨w1.heap.size, 4, none⟩ U22 rfl rfl hV.out.av.c4) ?_); (case hw => rfl)) | ((with_reducible refine wl_runG ?hw (ex_leq _ 3 3 (.tmp 94) (.const (.int .i64 200)) rfl .i64 (q.length : Int) 200 rfl rfl _ el.out) ?_); (case hw => rfl); simp only [Act.put, uA, uB, uC]) | (go_at_call 53; (with_reducible refine (rcut_to hW3.out hR4.out lr.out _).mono ?_); rintro e w2 ⟨⟨bb, rfl⟩, hk1⟩; have hV2 := Hd.mk (hV.out.keep hk1); clear hV; have hV := hV2; clear hV2 hk1; dsimp only) | (go_at_call 54; (with_reducible refine (dig_to hnx.out lW3.out _).mono ?_); rintro e w2 ⟨rfl, rfl⟩; dsimp only) | ((with_reducible refine wl_run rfl (ex_lss _ 3 3 (.tmp 105) (.const (.int .i64 0)) rfl .i64 nx 0 rfl rfl _ f1.out) ?_); simp only [Act.put, uA, uB, uC]) | ((with_reducible refine wl_res rfl (.tmp 2) (.tmp 111) rfl hV.out Z5 rfl rfl rfl one5 ?_); intro w2 hZ hKK hBT hBP; have hZ := Hd.mk hZ; have hKK := Hd.mk hKK; have hBT := Hd.mk hBT; have hBP := Hd.mk hBP; simp only [Act.put, uA, uB, uC]))
         refine bodyPost_ret (results_act rfl _ _ w.heap.size _ rfl hZ.out rfl) rfl ?_
         exact ⟨⟨⟨0, [], [], 0, []⟩, none, 0, none, 0, false, rfl, says_R_none hM.out (by rw [hR1.out]; exact hrd.out) _, (fun _ => rfl), BsF.nil _ _, BsF.nil _ _⟩, hKK.out⟩
   ·have h0 : d = 0 := of_decide_eq_true ez.out
    subst h0
    clear ez
    have ez : Hd (decide ((0 : Int) = 0) = true) := ⟨rfl⟩
    go_wp2_with (first | (with_reducible refine wl_run rfl (ex_load _ 3 _ (.int .i64 0) rfl ⟨w1.heap.size, 0, none⟩ U3 rfl rfl hV.out.av.c0) ?_) | ((with_reducible refine wl_run rfl (ex_eql _ 3 3 (.tmp 41) (.const (.int .i64 0)) rfl .i64 0 0 rfl rfl _ ez.out) ?_); simp only [Act.put, uA, uB, uC]) | ((with_reducible refine wl_run rfl (ex_act _ rfl hV.out rfl) ?_); simp only [Act.put, uA, uB, uC]) | ((with_reducible refine wl_res rfl (.tmp 2) (.tmp 43) rfl hV.out Z5 rfl rfl rfl one5 ?_); intro w2 hZ hKK hBT hBP; have hZ := Hd.mk hZ; have hKK := Hd.mk hKK; have hBT := Hd.mk hBT; have hBP := Hd.mk hBP; simp only [Act.put, uA, uB, uC]))
    refine bodyPost_ret (results_act rfl _ _ w.heap.size _ rfl hZ.out rfl) rfl ?_
    exact ⟨⟨⟨0, [], [], 0, []⟩, none, 0, none, 0, false, rfl, says_zero hM.out _, (fun _ => rfl), BsF.nil _ _, BsF.nil _ _⟩, hKK.out⟩
end Go.Proofs.YtkcechpaeilaeaaGreatDoor
