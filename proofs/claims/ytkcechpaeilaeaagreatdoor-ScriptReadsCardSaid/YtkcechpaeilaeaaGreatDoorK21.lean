/- Joined out of: A11. -/
import Derived.Test.YtkcechpaeilaeaaGreatDoorK11
set_option linter.unusedVariables false
set_option linter.unusedSimpArgs false
namespace Go.Proofs.YtkcechpaeilaeaaGreatDoor
open Go.RowKit
set_option maxRecDepth 100000
theorem says_yes {a : A} {l : List UInt8} (h1 : may a) (h2 : line a = l) : Says l a true := ⟨fun _ => ⟨h1, h2⟩, fun h => (Bool.noConfusion h)⟩
theorem readS_says {l : List UInt8} {d : Int} (h : Names (wd l) d) {a : A} (e : readS d (rs l) = a) : Says l a (decide (may a ∧ line a = l)) := by
 subst e; exact says_S h
theorem says_no {a z : A} {l : List UInt8} (h : Says l a (decide (may a ∧ line a = l))) (hn : ¬ (may a ∧ line a = l)) : Says l z false := by
 rw [decide_eq_false hn] at h
 exact ⟨fun h => (Bool.noConfusion h), h.no⟩
theorem ne12 {d : Int} (h : decide (d = 12) = false) : (d = 12) = False := eq_false (of_decide_eq_false h)
theorem readS_crash0 {d : Int} {r : List UInt8} (h1 : hk d = false) (h2 : hn d = false) (h3 : ht d = false) (hr : r = []) : readS d r = ⟨d, [], [], 0, []⟩ := by
 subst hr
 simp [readS, h1, h2, h3]
theorem one5 {d n : Int} {k : ByteArray} {At Ap : Option Addr} {x1 x2 y1 y2 : Nat} : ∀ v ∈ ([.int .i64 d, .string k, .slice At x1 x2, .int .i64 n, .slice Ap y1 y2] : List Value), v.oneCell' = true := by
 intro v hv
 simp only [List.mem_cons, List.not_mem_nil, or_false] at hv
 rcases hv with rfl | rfl | rfl | rfl | rfl <;> rfl
theorem info24 : (Tryz.prog.info? 24).map (·.size) = some 5 := by kernel_rfl
set_option maxHeartbeats 8000000 in
theorem act_at {l : List UInt8} (hl : l.length < 70000) {w : World} (hE : Ev w) : Calls Tryz.prog 11 #[.string ⟨l.toArray⟩] w fun e w' => ActR l w w' e := by
 obtain ⟨W0, hW0⟩ : ∃ x, Hd (wd l = x) := ⟨_, ⟨rfl⟩⟩
 obtain ⟨R1, hR1⟩ : ∃ x, Hd (rs l = x) := ⟨_, ⟨rfl⟩⟩
 have lR1 : Hd (R1.length < 70000) := ⟨by rw [← hR1.out]; exact Nat.lt_of_le_of_lt (rs_length _) hl⟩
 have hl := Hd.mk hl
 have hE := Hd.mk hE
 have hself : Hd ((l != l) = false) := ⟨by simp⟩
 have i24 : Hd ((Tryz.prog.info? 24).map (·.size) = some ([.int .i64 0, .int .i64 0, .int .i64 0, .int .i64 0, .int .i64 0] : List Value).length) := ⟨info24⟩
 have us3 : Hd ((Tryz.prog.underlying 3).isSome = true) := ⟨by kernel_rfl⟩
 have btn : Hd (∀ W : World, Bs W (.slice none ([] : List UInt8).length 0) (ints [])) := ⟨fun W => (BsF.nil 0 _).bs⟩
 have ftn : Hd (∀ B b : Nat, (Value.slice none ([] : List UInt8).length 0).ownBlock = some b → B < b) := ⟨fun B b h => by cases h⟩
 have E0 : Hd (Ev (w.alloc (.cells Z5.toArray 24))) := ⟨hE.out.keep ((Kp.refl _ w).alloc _)⟩
 go_enter Tryz.func11, Tryz.ntmps11
 go_wp2_with (go_at_call 50; refine (cut_to hW0.out hR1.out hl.out E0.out).mono ?_; rintro e w1 ⟨rfl, hk1⟩; have hV := Hd.mk (Aw.start hk1); clear hk1; dsimp only)
 go_loopw [7] (fun v7 wr => ∃ (j d : Int), v7 = .int .i64 j ∧ 1 ≤ j ∧ j ≤ 15 ∧ Hd (Aw w wr w.heap.size w1.heap.size d [] [] 0 [] none 0 none 0) ∧ Hd (NamesTo W0 j d)) (fun v7 _ => (15 - intOf v7).toNat)
 case atStart => exact ⟨1, 0, rfl, by omega, by omega, hV, ⟨NamesTo.start _⟩⟩
 case round =>
  clear hV
  obtain ⟨j, d, rfl, hj1, hj2, hV, hN⟩ := hrel
  by_cases hj : j ≤ 14
  ·obtain ⟨y, hy⟩ : ∃ b, Hd ((nm j == W0) = b) := ⟨_, ⟨rfl⟩⟩
   have hj2 : Hd (j ≤ 14) := ⟨hj⟩
   cases y
   ·have hN2 := Hd.mk (hN.out.no (fun e => by have := hy.out; rw [e] at this; simp at this))
    go_wp2_with (first | (go_at_call 39; refine (name_at j _).mono ?_; rintro e w2 ⟨rfl, hk1⟩; have hV2 := Hd.mk (hV.out.keep hk1); clear hV; have hV := hV2; clear hV2 hk1; dsimp only) | ((with_reducible refine wl_run rfl (ex_seql _ 9 9 (.tmp 26) (.tmp 27) rfl (nm j) W0 _ hy.out rfl rfl) ?_)))
    exact ⟨⟨j + 1, d, rfl, by omega, by omega, hV, hN2⟩, by simp [intOf]; omega⟩
   ·have hN2 := Hd.mk (NamesTo.yes (d := d) hj1 hj (eq_of_beq hy.out))
    go_wp2_with (first | (go_at_call 39; refine (name_at j _).mono ?_; rintro e w2 ⟨rfl, hk1⟩; have hV2 := Hd.mk (hV.out.keep hk1); clear hV; have hV := hV2; clear hV2 hk1; dsimp only) | ((with_reducible refine wl_run rfl (ex_seql _ 9 9 (.tmp 26) (.tmp 27) rfl (nm j) W0 _ hy.out rfl rfl) ?_)) | ((with_reducible refine wl_setd rfl (.tmp 30) (.tmp 29) rfl hV.out j rfl rfl ?_); intro w2 hV2; have hV2 := Hd.mk hV2; clear hV; have hV := hV2; clear hV2))
    exact ⟨⟨j + 1, j, rfl, by omega, by omega, hV, hN2⟩, by simp [intOf]; omega⟩
  ·have hM := Hd.mk (hN.out.done (by omega))
   clear hN
   have hj15 : j = 15 := by omega
   subst hj15
   clear hj hj1 hj2
   obtain ⟨hnd, ehn⟩ : ∃ b, Hd (hn d = b) := ⟨_, ⟨rfl⟩⟩
   obtain ⟨hkd, ehk⟩ : ∃ b, Hd (hk d = b) := ⟨_, ⟨rfl⟩⟩
   obtain ⟨htd, eht⟩ : ∃ b, Hd (ht d = b) := ⟨_, ⟨rfl⟩⟩
   obtain ⟨crd, ecr⟩ : ∃ b, Hd (decide (d = 12) = b) := ⟨_, ⟨rfl⟩⟩
   rw [← hW0.out] at hM
   cases crd
   ·cases hkd
    ·cases hnd
     ·cases htd
      ·have hrd : Hd (readS d R1 = ⟨d, [], [], 0, []⟩) := ⟨by simp only [readS, ehk.out, ehn.out, eht.out, ne12 ecr.out, false_and, Bool.false_eq_true, if_false, if_true]⟩
       have hL := Hd.mk (fun (w2 : World) (At : Option Addr) (ct : Nat) (Ap : Option Addr) (cp : Nat) (h : Aw w w2 w.heap.size w1.heap.size d [] [] 0 [] At ct Ap cp) => line_to ⟨d, [], [], 0, []⟩ l (h.ev hE.out) At ct Ap cp h.bt h.op.bs)
       simp only [List.length_nil] at hL
       go_wp2_with (first | (go_at_call 40; refine (hn_at d _).mono ?_; rw [ehn.out]; rintro e w2 ⟨rfl, rfl⟩; dsimp only) | (go_at_call 42; refine (hk_at d _).mono ?_; rw [ehk.out]; rintro e w2 ⟨rfl, rfl⟩; dsimp only) | (go_at_call 43; refine (ht_at d _).mono ?_; rw [eht.out]; rintro e w2 ⟨rfl, rfl⟩; dsimp only) | (with_reducible refine wl_run rfl (ex_load _ 3 _ (.int .i64 d) rfl ⟨w1.heap.size, 0, none⟩ U3 rfl rfl hV.out.av.c0) ?_) | ((with_reducible refine wl_run rfl (ex_eql _ 3 3 (.tmp 71) (.const (.int .i64 12)) rfl .i64 d 12 rfl rfl _ ecr.out) ?_)) | ((with_reducible refine wl_run rfl (ex_act _ rfl hV.out rfl) ?_)) | (go_at_call 9; (with_reducible refine (hL.out _ _ _ _ _ hV.out).mono ?_); rintro e w2 ⟨hc, hk1⟩; have hV2 := Hd.mk (hV.out.keep hk1); clear hV; have hV := hV2; clear hV2 hk1; rcases hc with ⟨rfl, hy⟩ | ⟨s, rfl, hs, hy⟩ | ⟨rfl, hy⟩ <;> (have hy := Hd.mk hy; try have hs := Hd.mk hs) <;> dsimp only) | ((with_reducible refine wl_runG ?hw (ex_sneq _ 9 9 (.tmp 105) (.tmp 106) rfl l l false hself.out rfl rfl) ?_); (case hw => rfl)) | ((with_reducible refine wl_runG ?hw (ex_sneq _ 9 9 (.tmp 105) (.tmp 106) rfl s l true hs.out rfl rfl) ?_); (case hw => rfl)) | ((with_reducible refine wl_res rfl (.tmp 2) (.tmp 110) rfl hV.out [.int .i64 d, .string ⟨([] : List UInt8).toArray⟩, .slice none 0 0, .int .i64 0, .slice none 0 0] rfl rfl rfl one5 ?_); intro w2 hZ hKK hBT hBP; have hZ := Hd.mk hZ; have hKK := Hd.mk hKK; have hBT := Hd.mk hBT; have hBP := Hd.mk hBP) | ((with_reducible refine wl_res rfl (.tmp 2) (.tmp 109) rfl hV.out Z5 rfl rfl rfl one5 ?_); intro w2 hZ hKK hBT hBP; have hZ := Hd.mk hZ; have hKK := Hd.mk hKK))
       ·refine bodyPost_ret (results_act rfl _ _ w.heap.size _ rfl hZ.out rfl) rfl ?_
        exact ⟨⟨⟨d, [], [], 0, []⟩, none, 0, none, 0, true, rfl, says_yes hy.out.1 hy.out.2, (fun h => by cases h), hBT.out, hBP.out⟩, hKK.out⟩
       ·refine bodyPost_ret (results_act rfl _ _ w.heap.size _ rfl hZ.out rfl) rfl ?_
        exact ⟨⟨⟨0, [], [], 0, []⟩, none, 0, none, 0, false, rfl, says_no (readS_says hM.out (by rw [hR1.out]; exact hrd.out)) hy.out, (fun _ => rfl), BsF.nil _ _, BsF.nil _ _⟩, hKK.out⟩
       ·refine bodyPost_ret (results_act rfl _ _ w.heap.size _ rfl hZ.out rfl) rfl ?_
        exact ⟨⟨⟨0, [], [], 0, []⟩, none, 0, none, 0, false, rfl, says_no (readS_says hM.out (by rw [hR1.out]; exact hrd.out)) hy.out, (fun _ => rfl), BsF.nil _ _, BsF.nil _ _⟩, hKK.out⟩
      ·obtain ⟨t0, ht0⟩ : ∃ x, Hd ((uq true R1).getD [] = x) := ⟨_, ⟨rfl⟩⟩
       have hrd : Hd (readS d R1 = ⟨d, [], t0, 0, []⟩) := ⟨by simp only [readS, ehk.out, ehn.out, eht.out, ne12 ecr.out, false_and, Bool.false_eq_true, if_false, if_true, ht0.out]⟩
       have hL := Hd.mk (fun (w2 : World) (At : Option Addr) (ct : Nat) (Ap : Option Addr) (cp : Nat) (h : Aw w w2 w.heap.size w1.heap.size d [] t0 0 [] At ct Ap cp) => line_to ⟨d, [], t0, 0, []⟩ l (h.ev hE.out) At ct Ap cp h.bt h.op.bs)
       simp only [List.length_nil] at hL
       go_wp2_with (first | (go_at_call 40; refine (hn_at d _).mono ?_; rw [ehn.out]; rintro e w2 ⟨rfl, rfl⟩; dsimp only) | (go_at_call 42; refine (hk_at d _).mono ?_; rw [ehk.out]; rintro e w2 ⟨rfl, rfl⟩; dsimp only) | (go_at_call 43; refine (ht_at d _).mono ?_; rw [eht.out]; rintro e w2 ⟨rfl, rfl⟩; dsimp only) | (go_at_call 14; (with_reducible refine (unq_to R1 true ht0.out lR1.out _).mono ?_); rintro e w2 ⟨⟨Aq, cq, er, rfl, hb, hf⟩, hk1⟩; have hf2 : Hd (∀ b, (Value.slice Aq _ cq).ownBlock = some b → w1.heap.size < b) := ⟨fun b h => Nat.lt_of_lt_of_le hV.out.av.lt (hf b h)⟩; have hb := Hd.mk hb; have hV2 := Hd.mk (hV.out.keep hk1); clear hV; have hV := hV2; clear hV2 hk1; dsimp only) | ((with_reducible refine wl_sett rfl (.tmp 69) (.tmp 67) rfl hV.out Aq cq t0 rfl rfl hb.out hf2.out ?_); intro w2 hV2; have hV2 := Hd.mk hV2; clear hV; have hV := hV2; clear hV2) | (with_reducible refine wl_run rfl (ex_load _ 3 _ (.int .i64 d) rfl ⟨w1.heap.size, 0, none⟩ U3 rfl rfl hV.out.av.c0) ?_) | ((with_reducible refine wl_run rfl (ex_eql _ 3 3 (.tmp 71) (.const (.int .i64 12)) rfl .i64 d 12 rfl rfl _ ecr.out) ?_)) | ((with_reducible refine wl_run rfl (ex_act _ rfl hV.out rfl) ?_)) | (go_at_call 9; (with_reducible refine (hL.out _ _ _ _ _ hV.out).mono ?_); rintro e w2 ⟨hc, hk1⟩; have hV2 := Hd.mk (hV.out.keep hk1); clear hV; have hV := hV2; clear hV2 hk1; rcases hc with ⟨rfl, hy⟩ | ⟨s, rfl, hs, hy⟩ | ⟨rfl, hy⟩ <;> (have hy := Hd.mk hy; try have hs := Hd.mk hs) <;> dsimp only) | ((with_reducible refine wl_runG ?hw (ex_sneq _ 9 9 (.tmp 105) (.tmp 106) rfl l l false hself.out rfl rfl) ?_); (case hw => rfl)) | ((with_reducible refine wl_runG ?hw (ex_sneq _ 9 9 (.tmp 105) (.tmp 106) rfl s l true hs.out rfl rfl) ?_); (case hw => rfl)) | ((with_reducible refine wl_res rfl (.tmp 2) (.tmp 110) rfl hV.out [.int .i64 d, .string ⟨([] : List UInt8).toArray⟩, .slice Aq t0.length cq, .int .i64 0, .slice none 0 0] rfl rfl rfl one5 ?_); intro w2 hZ hKK hBT hBP; have hZ := Hd.mk hZ; have hKK := Hd.mk hKK; have hBT := Hd.mk hBT; have hBP := Hd.mk hBP) | ((with_reducible refine wl_res rfl (.tmp 2) (.tmp 109) rfl hV.out Z5 rfl rfl rfl one5 ?_); intro w2 hZ hKK hBT hBP; have hZ := Hd.mk hZ; have hKK := Hd.mk hKK))
       ·refine bodyPost_ret (results_act rfl _ _ w.heap.size _ rfl hZ.out rfl) rfl ?_
        exact ⟨⟨⟨d, [], t0, 0, []⟩, Aq, cq, none, 0, true, rfl, says_yes hy.out.1 hy.out.2, (fun h => by cases h), hBT.out, hBP.out⟩, hKK.out⟩
       ·refine bodyPost_ret (results_act rfl _ _ w.heap.size _ rfl hZ.out rfl) rfl ?_
        exact ⟨⟨⟨0, [], [], 0, []⟩, none, 0, none, 0, false, rfl, says_no (readS_says hM.out (by rw [hR1.out]; exact hrd.out)) hy.out, (fun _ => rfl), BsF.nil _ _, BsF.nil _ _⟩, hKK.out⟩
       ·refine bodyPost_ret (results_act rfl _ _ w.heap.size _ rfl hZ.out rfl) rfl ?_
        exact ⟨⟨⟨0, [], [], 0, []⟩, none, 0, none, 0, false, rfl, says_no (readS_says hM.out (by rw [hR1.out]; exact hrd.out)) hy.out, (fun _ => rfl), BsF.nil _ _, BsF.nil _ _⟩, hKK.out⟩
     ·cases htd
      ·obtain ⟨W1, hW1⟩ : ∃ x, Hd (wd R1 = x) := ⟨_, ⟨rfl⟩⟩
       obtain ⟨R2, hR2⟩ : ∃ x, Hd (rs R1 = x) := ⟨_, ⟨rfl⟩⟩
       obtain ⟨n0, hn0⟩ : ∃ x, Hd (num W1 = x) := ⟨_, ⟨rfl⟩⟩
       have lW1 : Hd (W1.length < 70000) := ⟨by rw [← hW1.out]; exact Nat.lt_of_le_of_lt (wd_length _) lR1.out⟩
       have lR2 : Hd (R2.length < 70000) := ⟨by rw [← hR2.out]; exact Nat.lt_of_le_of_lt (rs_length _) lR1.out⟩
       have hrd : Hd (readS d R1 = ⟨d, [], [], n0, []⟩) := ⟨by simp only [readS, ehk.out, ehn.out, eht.out, ne12 ecr.out, false_and, Bool.false_eq_true, if_false, if_true, hW1.out, hR2.out, hn0.out]⟩
       have hL := Hd.mk (fun (w2 : World) (At : Option Addr) (ct : Nat) (Ap : Option Addr) (cp : Nat) (h : Aw w w2 w.heap.size w1.heap.size d [] [] n0 [] At ct Ap cp) => line_to ⟨d, [], [], n0, []⟩ l (h.ev hE.out) At ct Ap cp h.bt h.op.bs)
       simp only [List.length_nil] at hL
       go_wp2_with (first | (go_at_call 40; refine (hn_at d _).mono ?_; rw [ehn.out]; rintro e w2 ⟨rfl, rfl⟩; dsimp only) | (go_at_call 42; refine (hk_at d _).mono ?_; rw [ehk.out]; rintro e w2 ⟨rfl, rfl⟩; dsimp only) | (go_at_call 43; refine (ht_at d _).mono ?_; rw [eht.out]; rintro e w2 ⟨rfl, rfl⟩; dsimp only) | (go_at_call 50; (with_reducible refine (cut_to hW1.out hR2.out lR1.out (hV.out.ev hE.out)).mono ?_); rintro e w2 ⟨rfl, hk1⟩; have hV2 := Hd.mk (hV.out.keep hk1); clear hV; have hV := hV2; clear hV2 hk1; dsimp only) | (go_at_call 51; (with_reducible refine (num_to hn0.out lW1.out (hV.out.ev hE.out)).mono ?_); rintro e w2 ⟨⟨bb, rfl⟩, hk1⟩; have hV2 := Hd.mk (hV.out.keep hk1); clear hV; have hV := hV2; clear hV2 hk1; dsimp only) | ((with_reducible refine wl_setn rfl (.tmp 44) (.tmp 42) rfl hV.out n0 rfl rfl ?_); intro w2 hV2; have hV2 := Hd.mk hV2; clear hV; have hV := hV2; clear hV2) | (with_reducible refine wl_run rfl (ex_load _ 3 _ (.int .i64 d) rfl ⟨w1.heap.size, 0, none⟩ U3 rfl rfl hV.out.av.c0) ?_) | ((with_reducible refine wl_run rfl (ex_eql _ 3 3 (.tmp 71) (.const (.int .i64 12)) rfl .i64 d 12 rfl rfl _ ecr.out) ?_)) | ((with_reducible refine wl_run rfl (ex_act _ rfl hV.out rfl) ?_)) | (go_at_call 9; (with_reducible refine (hL.out _ _ _ _ _ hV.out).mono ?_); rintro e w2 ⟨hc, hk1⟩; have hV2 := Hd.mk (hV.out.keep hk1); clear hV; have hV := hV2; clear hV2 hk1; rcases hc with ⟨rfl, hy⟩ | ⟨s, rfl, hs, hy⟩ | ⟨rfl, hy⟩ <;> (have hy := Hd.mk hy; try have hs := Hd.mk hs) <;> dsimp only) | ((with_reducible refine wl_runG ?hw (ex_sneq _ 9 9 (.tmp 105) (.tmp 106) rfl l l false hself.out rfl rfl) ?_); (case hw => rfl)) | ((with_reducible refine wl_runG ?hw (ex_sneq _ 9 9 (.tmp 105) (.tmp 106) rfl s l true hs.out rfl rfl) ?_); (case hw => rfl)) | ((with_reducible refine wl_res rfl (.tmp 2) (.tmp 110) rfl hV.out [.int .i64 d, .string ⟨([] : List UInt8).toArray⟩, .slice none 0 0, .int .i64 n0, .slice none 0 0] rfl rfl rfl one5 ?_); intro w2 hZ hKK hBT hBP; have hZ := Hd.mk hZ; have hKK := Hd.mk hKK; have hBT := Hd.mk hBT; have hBP := Hd.mk hBP) | ((with_reducible refine wl_res rfl (.tmp 2) (.tmp 109) rfl hV.out Z5 rfl rfl rfl one5 ?_); intro w2 hZ hKK hBT hBP; have hZ := Hd.mk hZ; have hKK := Hd.mk hKK))
       ·refine bodyPost_ret (results_act rfl _ _ w.heap.size _ rfl hZ.out rfl) rfl ?_
        exact ⟨⟨⟨d, [], [], n0, []⟩, none, 0, none, 0, true, rfl, says_yes hy.out.1 hy.out.2, (fun h => by cases h), hBT.out, hBP.out⟩, hKK.out⟩
       ·refine bodyPost_ret (results_act rfl _ _ w.heap.size _ rfl hZ.out rfl) rfl ?_
        exact ⟨⟨⟨0, [], [], 0, []⟩, none, 0, none, 0, false, rfl, says_no (readS_says hM.out (by rw [hR1.out]; exact hrd.out)) hy.out, (fun _ => rfl), BsF.nil _ _, BsF.nil _ _⟩, hKK.out⟩
       ·refine bodyPost_ret (results_act rfl _ _ w.heap.size _ rfl hZ.out rfl) rfl ?_
        exact ⟨⟨⟨0, [], [], 0, []⟩, none, 0, none, 0, false, rfl, says_no (readS_says hM.out (by rw [hR1.out]; exact hrd.out)) hy.out, (fun _ => rfl), BsF.nil _ _, BsF.nil _ _⟩, hKK.out⟩
      ·obtain ⟨W1, hW1⟩ : ∃ x, Hd (wd R1 = x) := ⟨_, ⟨rfl⟩⟩
       obtain ⟨R2, hR2⟩ : ∃ x, Hd (rs R1 = x) := ⟨_, ⟨rfl⟩⟩
       obtain ⟨n0, hn0⟩ : ∃ x, Hd (num W1 = x) := ⟨_, ⟨rfl⟩⟩
       have lW1 : Hd (W1.length < 70000) := ⟨by rw [← hW1.out]; exact Nat.lt_of_le_of_lt (wd_length _) lR1.out⟩
       have lR2 : Hd (R2.length < 70000) := ⟨by rw [← hR2.out]; exact Nat.lt_of_le_of_lt (rs_length _) lR1.out⟩
       obtain ⟨t0, ht0⟩ : ∃ x, Hd ((uq true R2).getD [] = x) := ⟨_, ⟨rfl⟩⟩
       have hrd : Hd (readS d R1 = ⟨d, [], t0, n0, []⟩) := ⟨by simp only [readS, ehk.out, ehn.out, eht.out, ne12 ecr.out, false_and, Bool.false_eq_true, if_false, if_true, hW1.out, hR2.out, hn0.out, ht0.out]⟩
       have hL := Hd.mk (fun (w2 : World) (At : Option Addr) (ct : Nat) (Ap : Option Addr) (cp : Nat) (h : Aw w w2 w.heap.size w1.heap.size d [] t0 n0 [] At ct Ap cp) => line_to ⟨d, [], t0, n0, []⟩ l (h.ev hE.out) At ct Ap cp h.bt h.op.bs)
       simp only [List.length_nil] at hL
       go_wp2_with (first | (go_at_call 40; refine (hn_at d _).mono ?_; rw [ehn.out]; rintro e w2 ⟨rfl, rfl⟩; dsimp only) | (go_at_call 42; refine (hk_at d _).mono ?_; rw [ehk.out]; rintro e w2 ⟨rfl, rfl⟩; dsimp only) | (go_at_call 43; refine (ht_at d _).mono ?_; rw [eht.out]; rintro e w2 ⟨rfl, rfl⟩; dsimp only) | (go_at_call 50; (with_reducible refine (cut_to hW1.out hR2.out lR1.out (hV.out.ev hE.out)).mono ?_); rintro e w2 ⟨rfl, hk1⟩; have hV2 := Hd.mk (hV.out.keep hk1); clear hV; have hV := hV2; clear hV2 hk1; dsimp only) | (go_at_call 51; (with_reducible refine (num_to hn0.out lW1.out (hV.out.ev hE.out)).mono ?_); rintro e w2 ⟨⟨bb, rfl⟩, hk1⟩; have hV2 := Hd.mk (hV.out.keep hk1); clear hV; have hV := hV2; clear hV2 hk1; dsimp only) | ((with_reducible refine wl_setn rfl (.tmp 44) (.tmp 42) rfl hV.out n0 rfl rfl ?_); intro w2 hV2; have hV2 := Hd.mk hV2; clear hV; have hV := hV2; clear hV2) | (go_at_call 14; (with_reducible refine (unq_to R2 true ht0.out lR2.out _).mono ?_); rintro e w2 ⟨⟨Aq, cq, er, rfl, hb, hf⟩, hk1⟩; have hf2 : Hd (∀ b, (Value.slice Aq _ cq).ownBlock = some b → w1.heap.size < b) := ⟨fun b h => Nat.lt_of_lt_of_le hV.out.av.lt (hf b h)⟩; have hb := Hd.mk hb; have hV2 := Hd.mk (hV.out.keep hk1); clear hV; have hV := hV2; clear hV2 hk1; dsimp only) | ((with_reducible refine wl_sett rfl (.tmp 69) (.tmp 67) rfl hV.out Aq cq t0 rfl rfl hb.out hf2.out ?_); intro w2 hV2; have hV2 := Hd.mk hV2; clear hV; have hV := hV2; clear hV2) | (with_reducible refine wl_run rfl (ex_load _ 3 _ (.int .i64 d) rfl ⟨w1.heap.size, 0, none⟩ U3 rfl rfl hV.out.av.c0) ?_) | ((with_reducible refine wl_run rfl (ex_eql _ 3 3 (.tmp 71) (.const (.int .i64 12)) rfl .i64 d 12 rfl rfl _ ecr.out) ?_)) | ((with_reducible refine wl_run rfl (ex_act _ rfl hV.out rfl) ?_)) | (go_at_call 9; (with_reducible refine (hL.out _ _ _ _ _ hV.out).mono ?_); rintro e w2 ⟨hc, hk1⟩; have hV2 := Hd.mk (hV.out.keep hk1); clear hV; have hV := hV2; clear hV2 hk1; rcases hc with ⟨rfl, hy⟩ | ⟨s, rfl, hs, hy⟩ | ⟨rfl, hy⟩ <;> (have hy := Hd.mk hy; try have hs := Hd.mk hs) <;> dsimp only) | ((with_reducible refine wl_runG ?hw (ex_sneq _ 9 9 (.tmp 105) (.tmp 106) rfl l l false hself.out rfl rfl) ?_); (case hw => rfl)) | ((with_reducible refine wl_runG ?hw (ex_sneq _ 9 9 (.tmp 105) (.tmp 106) rfl s l true hs.out rfl rfl) ?_); (case hw => rfl)) | ((with_reducible refine wl_res rfl (.tmp 2) (.tmp 110) rfl hV.out [.int .i64 d, .string ⟨([] : List UInt8).toArray⟩, .slice Aq t0.length cq, .int .i64 n0, .slice none 0 0] rfl rfl rfl one5 ?_); intro w2 hZ hKK hBT hBP; have hZ := Hd.mk hZ; have hKK := Hd.mk hKK; have hBT := Hd.mk hBT; have hBP := Hd.mk hBP) | ((with_reducible refine wl_res rfl (.tmp 2) (.tmp 109) rfl hV.out Z5 rfl rfl rfl one5 ?_); intro w2 hZ hKK hBT hBP; have hZ := Hd.mk hZ; have hKK := Hd.mk hKK))
       ·refine bodyPost_ret (results_act rfl _ _ w.heap.size _ rfl hZ.out rfl) rfl ?_
        exact ⟨⟨⟨d, [], t0, n0, []⟩, Aq, cq, none, 0, true, rfl, says_yes hy.out.1 hy.out.2, (fun h => by cases h), hBT.out, hBP.out⟩, hKK.out⟩
       ·refine bodyPost_ret (results_act rfl _ _ w.heap.size _ rfl hZ.out rfl) rfl ?_
        exact ⟨⟨⟨0, [], [], 0, []⟩, none, 0, none, 0, false, rfl, says_no (readS_says hM.out (by rw [hR1.out]; exact hrd.out)) hy.out, (fun _ => rfl), BsF.nil _ _, BsF.nil _ _⟩, hKK.out⟩
       ·refine bodyPost_ret (results_act rfl _ _ w.heap.size _ rfl hZ.out rfl) rfl ?_
        exact ⟨⟨⟨0, [], [], 0, []⟩, none, 0, none, 0, false, rfl, says_no (readS_says hM.out (by rw [hR1.out]; exact hrd.out)) hy.out, (fun _ => rfl), BsF.nil _ _, BsF.nil _ _⟩, hKK.out⟩
    ·cases hnd
     ·cases htd
      ·obtain ⟨W2, hW2⟩ : ∃ x, Hd (wd R1 = x) := ⟨_, ⟨rfl⟩⟩
       obtain ⟨R3, hR3⟩ : ∃ x, Hd (rs R1 = x) := ⟨_, ⟨rfl⟩⟩
       obtain ⟨k0, hk0⟩ : ∃ x, Hd ((uq false W2).getD [] = x) := ⟨_, ⟨rfl⟩⟩
       have lW2 : Hd (W2.length < 70000) := ⟨by rw [← hW2.out]; exact Nat.lt_of_le_of_lt (wd_length _) lR1.out⟩
       have lR3 : Hd (R3.length < 70000) := ⟨by rw [← hR3.out]; exact Nat.lt_of_le_of_lt (rs_length _) lR1.out⟩
       have hrd : Hd (readS d R1 = ⟨d, k0, [], 0, []⟩) := ⟨by simp only [readS, ehk.out, ehn.out, eht.out, ne12 ecr.out, false_and, Bool.false_eq_true, if_false, if_true, hW2.out, hR3.out, hk0.out]⟩
       have hL := Hd.mk (fun (w2 : World) (At : Option Addr) (ct : Nat) (Ap : Option Addr) (cp : Nat) (h : Aw w w2 w.heap.size w1.heap.size d k0 [] 0 [] At ct Ap cp) => line_to ⟨d, k0, [], 0, []⟩ l (h.ev hE.out) At ct Ap cp h.bt h.op.bs)
       simp only [List.length_nil] at hL
       go_wp2_with (first | (go_at_call 40; refine (hn_at d _).mono ?_; rw [ehn.out]; rintro e w2 ⟨rfl, rfl⟩; dsimp only) | (go_at_call 42; refine (hk_at d _).mono ?_; rw [ehk.out]; rintro e w2 ⟨rfl, rfl⟩; dsimp only) | (go_at_call 43; refine (ht_at d _).mono ?_; rw [eht.out]; rintro e w2 ⟨rfl, rfl⟩; dsimp only) | (go_at_call 50; (with_reducible refine (cut_to hW2.out hR3.out lR1.out (hV.out.ev hE.out)).mono ?_); rintro e w2 ⟨rfl, hk1⟩; have hV2 := Hd.mk (hV.out.keep hk1); clear hV; have hV := hV2; clear hV2 hk1; dsimp only) | (go_at_call 14; (with_reducible refine (unq_to W2 false hk0.out lW2.out _).mono ?_); rintro e w2 ⟨⟨Aq, cq, er, rfl, hb, hf⟩, hk1⟩; have hf2 : Hd (∀ b, (Value.slice Aq _ cq).ownBlock = some b → w1.heap.size < b) := ⟨fun b h => Nat.lt_of_lt_of_le hV.out.av.lt (hf b h)⟩; have hb := Hd.mk hb; have hV2 := Hd.mk (hV.out.keep hk1); clear hV; have hV := hV2; clear hV2 hk1; dsimp only) | ((with_reducible refine wl_run rfl (ex_tostr _ 22 9 5 (.tmp 58) rfl U22 U5 U9 (.slice Aq k0.length cq) k0 hb.out rfl) ?_)) | ((with_reducible refine wl_setk rfl (.tmp 60) (.tmp 59) rfl hV.out k0 rfl rfl ?_); intro w2 hV2; have hV2 := Hd.mk hV2; clear hV; have hV := hV2; clear hV2) | (with_reducible refine wl_run rfl (ex_load _ 3 _ (.int .i64 d) rfl ⟨w1.heap.size, 0, none⟩ U3 rfl rfl hV.out.av.c0) ?_) | ((with_reducible refine wl_run rfl (ex_eql _ 3 3 (.tmp 71) (.const (.int .i64 12)) rfl .i64 d 12 rfl rfl _ ecr.out) ?_)) | ((with_reducible refine wl_run rfl (ex_act _ rfl hV.out rfl) ?_)) | (go_at_call 9; (with_reducible refine (hL.out _ _ _ _ _ hV.out).mono ?_); rintro e w2 ⟨hc, hk1⟩; have hV2 := Hd.mk (hV.out.keep hk1); clear hV; have hV := hV2; clear hV2 hk1; rcases hc with ⟨rfl, hy⟩ | ⟨s, rfl, hs, hy⟩ | ⟨rfl, hy⟩ <;> (have hy := Hd.mk hy; try have hs := Hd.mk hs) <;> dsimp only) | ((with_reducible refine wl_runG ?hw (ex_sneq _ 9 9 (.tmp 105) (.tmp 106) rfl l l false hself.out rfl rfl) ?_); (case hw => rfl)) | ((with_reducible refine wl_runG ?hw (ex_sneq _ 9 9 (.tmp 105) (.tmp 106) rfl s l true hs.out rfl rfl) ?_); (case hw => rfl)) | ((with_reducible refine wl_res rfl (.tmp 2) (.tmp 110) rfl hV.out [.int .i64 d, .string ⟨(k0 : List UInt8).toArray⟩, .slice none 0 0, .int .i64 0, .slice none 0 0] rfl rfl rfl one5 ?_); intro w2 hZ hKK hBT hBP; have hZ := Hd.mk hZ; have hKK := Hd.mk hKK; have hBT := Hd.mk hBT; have hBP := Hd.mk hBP) | ((with_reducible refine wl_res rfl (.tmp 2) (.tmp 109) rfl hV.out Z5 rfl rfl rfl one5 ?_); intro w2 hZ hKK hBT hBP; have hZ := Hd.mk hZ; have hKK := Hd.mk hKK))
       ·refine bodyPost_ret (results_act rfl _ _ w.heap.size _ rfl hZ.out rfl) rfl ?_
        exact ⟨⟨⟨d, k0, [], 0, []⟩, none, 0, none, 0, true, rfl, says_yes hy.out.1 hy.out.2, (fun h => by cases h), hBT.out, hBP.out⟩, hKK.out⟩
       ·refine bodyPost_ret (results_act rfl _ _ w.heap.size _ rfl hZ.out rfl) rfl ?_
        exact ⟨⟨⟨0, [], [], 0, []⟩, none, 0, none, 0, false, rfl, says_no (readS_says hM.out (by rw [hR1.out]; exact hrd.out)) hy.out, (fun _ => rfl), BsF.nil _ _, BsF.nil _ _⟩, hKK.out⟩
       ·refine bodyPost_ret (results_act rfl _ _ w.heap.size _ rfl hZ.out rfl) rfl ?_
        exact ⟨⟨⟨0, [], [], 0, []⟩, none, 0, none, 0, false, rfl, says_no (readS_says hM.out (by rw [hR1.out]; exact hrd.out)) hy.out, (fun _ => rfl), BsF.nil _ _, BsF.nil _ _⟩, hKK.out⟩
      ·obtain ⟨W2, hW2⟩ : ∃ x, Hd (wd R1 = x) := ⟨_, ⟨rfl⟩⟩
       obtain ⟨R3, hR3⟩ : ∃ x, Hd (rs R1 = x) := ⟨_, ⟨rfl⟩⟩
       obtain ⟨k0, hk0⟩ : ∃ x, Hd ((uq false W2).getD [] = x) := ⟨_, ⟨rfl⟩⟩
       have lW2 : Hd (W2.length < 70000) := ⟨by rw [← hW2.out]; exact Nat.lt_of_le_of_lt (wd_length _) lR1.out⟩
       have lR3 : Hd (R3.length < 70000) := ⟨by rw [← hR3.out]; exact Nat.lt_of_le_of_lt (rs_length _) lR1.out⟩
       obtain ⟨t0, ht0⟩ : ∃ x, Hd ((uq true R3).getD [] = x) := ⟨_, ⟨rfl⟩⟩
       have hrd : Hd (readS d R1 = ⟨d, k0, t0, 0, []⟩) := ⟨by simp only [readS, ehk.out, ehn.out, eht.out, ne12 ecr.out, false_and, Bool.false_eq_true, if_false, if_true, hW2.out, hR3.out, hk0.out, ht0.out]⟩
       have hL := Hd.mk (fun (w2 : World) (At : Option Addr) (ct : Nat) (Ap : Option Addr) (cp : Nat) (h : Aw w w2 w.heap.size w1.heap.size d k0 t0 0 [] At ct Ap cp) => line_to ⟨d, k0, t0, 0, []⟩ l (h.ev hE.out) At ct Ap cp h.bt h.op.bs)
       simp only [List.length_nil] at hL
       go_wp2_with (first | (go_at_call 40; refine (hn_at d _).mono ?_; rw [ehn.out]; rintro e w2 ⟨rfl, rfl⟩; dsimp only) | (go_at_call 42; refine (hk_at d _).mono ?_; rw [ehk.out]; rintro e w2 ⟨rfl, rfl⟩; dsimp only) | (go_at_call 43; refine (ht_at d _).mono ?_; rw [eht.out]; rintro e w2 ⟨rfl, rfl⟩; dsimp only) | (go_at_call 50; (with_reducible refine (cut_to hW2.out hR3.out lR1.out (hV.out.ev hE.out)).mono ?_); rintro e w2 ⟨rfl, hk1⟩; have hV2 := Hd.mk (hV.out.keep hk1); clear hV; have hV := hV2; clear hV2 hk1; dsimp only) | (go_at_call 14; (with_reducible refine (unq_to W2 false hk0.out lW2.out _).mono ?_); rintro e w2 ⟨⟨Aq, cq, er, rfl, hb, hf⟩, hk1⟩; have hf2 : Hd (∀ b, (Value.slice Aq _ cq).ownBlock = some b → w1.heap.size < b) := ⟨fun b h => Nat.lt_of_lt_of_le hV.out.av.lt (hf b h)⟩; have hb := Hd.mk hb; have hV2 := Hd.mk (hV.out.keep hk1); clear hV; have hV := hV2; clear hV2 hk1; dsimp only) | ((with_reducible refine wl_run rfl (ex_tostr _ 22 9 5 (.tmp 58) rfl U22 U5 U9 (.slice Aq k0.length cq) k0 hb.out rfl) ?_)) | ((with_reducible refine wl_setk rfl (.tmp 60) (.tmp 59) rfl hV.out k0 rfl rfl ?_); intro w2 hV2; have hV2 := Hd.mk hV2; clear hV; have hV := hV2; clear hV2) | (go_at_call 14; (with_reducible refine (unq_to R3 true ht0.out lR3.out _).mono ?_); rintro e w2 ⟨⟨Aq, cq, er, rfl, hb, hf⟩, hk1⟩; have hf2 : Hd (∀ b, (Value.slice Aq _ cq).ownBlock = some b → w1.heap.size < b) := ⟨fun b h => Nat.lt_of_lt_of_le hV.out.av.lt (hf b h)⟩; have hb := Hd.mk hb; have hV2 := Hd.mk (hV.out.keep hk1); clear hV; have hV := hV2; clear hV2 hk1; dsimp only) | ((with_reducible refine wl_sett rfl (.tmp 69) (.tmp 67) rfl hV.out Aq cq t0 rfl rfl hb.out hf2.out ?_); intro w2 hV2; have hV2 := Hd.mk hV2; clear hV; have hV := hV2; clear hV2) | (with_reducible refine wl_run rfl (ex_load _ 3 _ (.int .i64 d) rfl ⟨w1.heap.size, 0, none⟩ U3 rfl rfl hV.out.av.c0) ?_) | ((with_reducible refine wl_run rfl (ex_eql _ 3 3 (.tmp 71) (.const (.int .i64 12)) rfl .i64 d 12 rfl rfl _ ecr.out) ?_)) | ((with_reducible refine wl_run rfl (ex_act _ rfl hV.out rfl) ?_)) | (go_at_call 9; (with_reducible refine (hL.out _ _ _ _ _ hV.out).mono ?_); rintro e w2 ⟨hc, hk1⟩; have hV2 := Hd.mk (hV.out.keep hk1); clear hV; have hV := hV2; clear hV2 hk1; rcases hc with ⟨rfl, hy⟩ | ⟨s, rfl, hs, hy⟩ | ⟨rfl, hy⟩ <;> (have hy := Hd.mk hy; try have hs := Hd.mk hs) <;> dsimp only) | ((with_reducible refine wl_runG ?hw (ex_sneq _ 9 9 (.tmp 105) (.tmp 106) rfl l l false hself.out rfl rfl) ?_); (case hw => rfl)) | ((with_reducible refine wl_runG ?hw (ex_sneq _ 9 9 (.tmp 105) (.tmp 106) rfl s l true hs.out rfl rfl) ?_); (case hw => rfl)) | ((with_reducible refine wl_res rfl (.tmp 2) (.tmp 110) rfl hV.out [.int .i64 d, .string ⟨(k0 : List UInt8).toArray⟩, .slice Aq t0.length cq, .int .i64 0, .slice none 0 0] rfl rfl rfl one5 ?_); intro w2 hZ hKK hBT hBP; have hZ := Hd.mk hZ; have hKK := Hd.mk hKK; have hBT := Hd.mk hBT; have hBP := Hd.mk hBP) | ((with_reducible refine wl_res rfl (.tmp 2) (.tmp 109) rfl hV.out Z5 rfl rfl rfl one5 ?_); intro w2 hZ hKK hBT hBP; have hZ := Hd.mk hZ; have hKK := Hd.mk hKK))
       ·refine bodyPost_ret (results_act rfl _ _ w.heap.size _ rfl hZ.out rfl) rfl ?_
        exact ⟨⟨⟨d, k0, t0, 0, []⟩, Aq, cq, none, 0, true, rfl, says_yes hy.out.1 hy.out.2, (fun h => by cases h), hBT.out, hBP.out⟩, hKK.out⟩
       ·refine bodyPost_ret (results_act rfl _ _ w.heap.size _ rfl hZ.out rfl) rfl ?_
        exact ⟨⟨⟨0, [], [], 0, []⟩, none, 0, none, 0, false, rfl, says_no (readS_says hM.out (by rw [hR1.out]; exact hrd.out)) hy.out, (fun _ => rfl), BsF.nil _ _, BsF.nil _ _⟩, hKK.out⟩
       ·refine bodyPost_ret (results_act rfl _ _ w.heap.size _ rfl hZ.out rfl) rfl ?_
        exact ⟨⟨⟨0, [], [], 0, []⟩, none, 0, none, 0, false, rfl, says_no (readS_says hM.out (by rw [hR1.out]; exact hrd.out)) hy.out, (fun _ => rfl), BsF.nil _ _, BsF.nil _ _⟩, hKK.out⟩
     ·cases htd
      ·exact absurd ehk.out (by have := ehn.out; intro h; simp [hk, hn] at this h; omega)
      ·exact absurd ehk.out (by have := ehn.out; intro h; simp [hk, hn] at this h; omega)
   ·have h12 : d = 12 := of_decide_eq_true ecr.out
    have : hnd = false := by rw [← ehn.out, h12]; rfl
    subst this
    have : hkd = false := by rw [← ehk.out, h12]; rfl
    subst this
    have : htd = false := by rw [← eht.out, h12]; rfl
    subst this
    clear h12
    obtain ⟨yr, eR⟩ : ∃ b, Hd ((R1 != []) = b) := ⟨_, ⟨rfl⟩⟩
    cases yr
    ·have hrd : Hd (readS d R1 = ⟨d, [], [], 0, []⟩) := ⟨readS_crash0 ehk.out ehn.out eht.out (by simpa using eR.out)⟩
     have hL := Hd.mk (fun (w2 : World) (At : Option Addr) (ct : Nat) (Ap : Option Addr) (cp : Nat) (h : Aw w w2 w.heap.size w1.heap.size d [] [] 0 [] At ct Ap cp) => line_to ⟨d, [], [], 0, []⟩ l (h.ev hE.out) At ct Ap cp h.bt h.op.bs)
     simp only [List.length_nil] at hL
     go_wp2_with (first | (go_at_call 40; refine (hn_at d _).mono ?_; rw [ehn.out]; rintro e w2 ⟨rfl, rfl⟩; dsimp only) | (go_at_call 42; refine (hk_at d _).mono ?_; rw [ehk.out]; rintro e w2 ⟨rfl, rfl⟩; dsimp only) | (go_at_call 43; refine (ht_at d _).mono ?_; rw [eht.out]; rintro e w2 ⟨rfl, rfl⟩; dsimp only) | (with_reducible refine wl_run rfl (ex_load _ 3 _ (.int .i64 d) rfl ⟨w1.heap.size, 0, none⟩ U3 rfl rfl hV.out.av.c0) ?_) | ((with_reducible refine wl_run rfl (ex_eql _ 3 3 (.tmp 71) (.const (.int .i64 12)) rfl .i64 d 12 rfl rfl _ ecr.out) ?_)) | ((with_reducible refine wl_runG ?hw (ex_sneq _ 9 9 (.tmp 74) (.const (.string ⟨#[]⟩)) rfl R1 [] _ eR.out rfl rfl) ?_); (case hw => rfl)) | ((with_reducible refine wl_run rfl (ex_act _ rfl hV.out rfl) ?_)) | (go_at_call 9; (with_reducible refine (hL.out _ _ _ _ _ hV.out).mono ?_); rintro e w2 ⟨hc, hk1⟩; have hV2 := Hd.mk (hV.out.keep hk1); clear hV; have hV := hV2; clear hV2 hk1; rcases hc with ⟨rfl, hy⟩ | ⟨s, rfl, hs, hy⟩ | ⟨rfl, hy⟩ <;> (have hy := Hd.mk hy; try have hs := Hd.mk hs) <;> dsimp only) | ((with_reducible refine wl_runG ?hw (ex_sneq _ 9 9 (.tmp 105) (.tmp 106) rfl l l false hself.out rfl rfl) ?_); (case hw => rfl)) | ((with_reducible refine wl_runG ?hw (ex_sneq _ 9 9 (.tmp 105) (.tmp 106) rfl s l true hs.out rfl rfl) ?_); (case hw => rfl)) | ((with_reducible refine wl_res rfl (.tmp 2) (.tmp 110) rfl hV.out [.int .i64 d, .string ⟨([] : List UInt8).toArray⟩, .slice none 0 0, .int .i64 0, .slice none 0 0] rfl rfl rfl one5 ?_); intro w2 hZ hKK hBT hBP; have hZ := Hd.mk hZ; have hKK := Hd.mk hKK; have hBT := Hd.mk hBT; have hBP := Hd.mk hBP) | ((with_reducible refine wl_res rfl (.tmp 2) (.tmp 109) rfl hV.out Z5 rfl rfl rfl one5 ?_); intro w2 hZ hKK hBT hBP; have hZ := Hd.mk hZ; have hKK := Hd.mk hKK))
     ·refine bodyPost_ret (results_act rfl _ _ w.heap.size _ rfl hZ.out rfl) rfl ?_
      exact ⟨⟨⟨d, [], [], 0, []⟩, none, 0, none, 0, true, rfl, says_yes hy.out.1 hy.out.2, (fun h => by cases h), hBT.out, hBP.out⟩, hKK.out⟩
     ·refine bodyPost_ret (results_act rfl _ _ w.heap.size _ rfl hZ.out rfl) rfl ?_
      exact ⟨⟨⟨0, [], [], 0, []⟩, none, 0, none, 0, false, rfl, says_no (readS_says hM.out (by rw [hR1.out]; exact hrd.out)) hy.out, (fun _ => rfl), BsF.nil _ _, BsF.nil _ _⟩, hKK.out⟩
     ·refine bodyPost_ret (results_act rfl _ _ w.heap.size _ rfl hZ.out rfl) rfl ?_
      exact ⟨⟨⟨0, [], [], 0, []⟩, none, 0, none, 0, false, rfl, says_no (readS_says hM.out (by rw [hR1.out]; exact hrd.out)) hy.out, (fun _ => rfl), BsF.nil _ _, BsF.nil _ _⟩, hKK.out⟩
    ·obtain ⟨Sb, hSb⟩ : ∃ s, Hd (wr.heap.size = s) := ⟨_, ⟨rfl⟩⟩
     obtain ⟨ws, hws⟩ : ∃ x, Hd (spl R1 = x) := ⟨_, ⟨rfl⟩⟩
     obtain ⟨ps, hps⟩ : ∃ x, Hd (x = ws.map pickOf) := ⟨_, ⟨rfl⟩⟩
     have hrd : Hd (readS d R1 = ⟨d, [], [], 0, ps⟩) := ⟨by rw [hps.out, ← hws.out]; exact readS_crash1 ehk.out ehn.out eht.out ecr.out (by simpa using eR.out)⟩
     have hwl : (ws.length : Int) ≤ 80000 := by have := spl_length R1; have := lR1.out; rw [hws.out] at *; omega
     have hword : Hd (∀ x ∈ ws, x.length < 70000) := ⟨fun x hx => Nat.lt_of_le_of_lt (spl_word R1 x (by rw [hws.out]; exact hx)) lR1.out⟩
     have hpl : Hd (ps.length = ws.length) := ⟨by rw [hps.out, List.length_map]⟩
     go_wp2_with (first | (go_at_call 52; (with_reducible refine (split_at R1 lR1.out (hV.out.ev hE.out)).mono ?_); rintro e w2 ⟨rfl, hsp, hk1⟩; rw [hws.out] at hsp ⊢; rw [hSb.out] at hsp ⊢; have hC := Hd.mk (Cw.start2 hSb.out hV.out hk1 hsp); clear hV hsp hk1; dsimp only) | (go_at_call 40; refine (hn_at d _).mono ?_; rw [ehn.out]; rintro e w2 ⟨rfl, rfl⟩; dsimp only) | (go_at_call 42; refine (hk_at d _).mono ?_; rw [ehk.out]; rintro e w2 ⟨rfl, rfl⟩; dsimp only) | (go_at_call 43; refine (ht_at d _).mono ?_; rw [eht.out]; rintro e w2 ⟨rfl, rfl⟩; dsimp only) | (with_reducible refine wl_run rfl (ex_load _ 3 _ (.int .i64 d) rfl ⟨w1.heap.size, 0, none⟩ U3 rfl rfl hV.out.av.c0) ?_) | ((with_reducible refine wl_run rfl (ex_eql _ 3 3 (.tmp 71) (.const (.int .i64 12)) rfl .i64 d 12 rfl rfl _ ecr.out) ?_)) | ((with_reducible refine wl_runG ?hw (ex_sneq _ 9 9 (.tmp 74) (.const (.string ⟨#[]⟩)) rfl R1 [] _ eR.out rfl rfl) ?_); (case hw => rfl)))
     go_loopw [80] (fun v80 w3 => ∃ (j : Nat) (q : List UInt8) (Ap : Option Addr) (cp : Nat), v80 = .int .i64 j ∧ (j : Int) ≤ (ws.length : Int) ∧ Hd (q = ps.take j) ∧ Hd (Cw w w3 w.heap.size w1.heap.size Sb d ws q Ap cp)) (fun v80 _ => ws.length - (intOf v80).toNat)
     case atStart => exact ⟨0, [], none, 0, rfl, by omega, ⟨by simp⟩, hC⟩
     case round =>
      clear hC
      obtain ⟨j, q, Ap, cp, rfl, hj, hq, hC⟩ := hrel
      by_cases hlt : j < ws.length
      ·have hlt2 : (j : Int) < ws.length := by omega
       obtain ⟨x, hx⟩ : ∃ x, Hd (ws[j]? = some x) := ⟨_, ⟨List.getElem?_eq_getElem hlt⟩⟩
       have lx : Hd (x.length < 70000) := ⟨hword.out x (List.mem_of_getElem? hx.out)⟩
       obtain ⟨u, hu⟩ : ∃ u, Hd (pickOf x = u) := ⟨_, ⟨rfl⟩⟩
       obtain ⟨nx, hnx⟩ : ∃ z, Hd (num x = z) := ⟨_, ⟨rfl⟩⟩
       have hz : Hd (nx % 256 = (u.toNat : Int)) := ⟨by rw [← hnx.out, ← hu.out]; exact pickOf_z x⟩
       have hql : Hd ((ints q).length + (ints [u]).length ≤ 1000000000000) := ⟨by rw [ints_length, ints_length, hq.out]; have := List.length_take_le j ps; simp only [List.length_cons, List.length_nil]; omega⟩
       obtain ⟨q2, hqq⟩ : ∃ x, Hd (q ++ [u] = x) := ⟨_, ⟨rfl⟩⟩
       have hq2 : Hd (q2 = ps.take (j + 1)) := ⟨by rw [← hqq.out, hq.out, List.take_succ_eq_append_getElem (by rw [hpl.out]; exact hlt)]; congr 2; rw [← hu.out]; have := hx.out; simp only [hps.out, List.getElem_map]; obtain ⟨_, e⟩ := List.getElem?_eq_some_iff.1 this; rw [e]⟩
       clear hlt
       go_wp2_with (first | (with_reducible refine wl_run rfl (ex_load _ 9 (.tmp 82) (.string ⟨x.toArray⟩) rfl ⟨Sb, j, none⟩ U9 rfl rfl (hC.out.word hx.out)) ?_) | (go_at_call 51; (with_reducible refine (num_to hnx.out lx.out (hC.out.aw.ev hE.out)).mono ?_); rintro e w4 ⟨⟨bb, rfl⟩, hk1⟩; have hC2 := Hd.mk (hC.out.keep hk1); clear hC; have hC := hC2; clear hC2 hk1; dsimp only) | (with_reducible refine wl_run rfl (ex_load _ 22 (.tmp 89) (.slice Ap q.length cp) rfl ⟨w1.heap.size, 4, none⟩ U22 rfl rfl hC.out.aw.av.c4) ?_) | (with_reducible refine wl_run rfl (ex_tou8z _ 3 5 (.tmp 91) rfl us3.out U5 .i64 nx rfl) ?_) | ((with_reducible refine wl_lit1 rfl (.tmp 92) rfl (nx % 256) rfl ?_); intro v1 w4 hv1 hk1; rw [hz.out] at hv1; have hv1 : Hd (Bs w4 v1 (ints [u])) := ⟨hv1⟩; have hC2 := Hd.mk (hC.out.keep hk1); clear hC; have hC := hC2; clear hC2 hk1) | ((with_reducible refine wl_ob rfl (.tmp 90) (.tmp 93) rfl (.slice Ap q.length cp) (ints q) rfl hC.out.ob hC.out.size v1 (ints [u]) rfl hv1.out hql.out ?_); intro v2 w5 hv2 hb2; rw [← ints_append, hqq.out] at hv2; obtain ⟨A2, c2, rfl⟩ := ob_slice hv2; have hG := Hd.mk (hC.out.grow hv2 hb2); clear hC hv2 hb2) | ((with_reducible refine wl_setp rfl (.tmp 95) (.tmp 94) rfl hG.out.av (btn.out _) (ftn.out _) A2 c2 q2 rfl rfl hG.out.op ?_); intro w6 hV2 hk2; have hC := Hd.mk (hG.out.done hV2 hk2); clear hG hV2 hk2))
       exact ⟨⟨j + 1, q2, A2, c2, by go_num, by omega, hq2, hC⟩, by simp [intOf]; omega⟩
      ·have hq2 : Hd (q = ps) := ⟨by rw [hq.out, List.take_of_length_le (by rw [hpl.out]; omega)]⟩
       have hj3 : (j : Int) = ws.length := by omega
       have hV := Hd.mk hC.out.aw
       rw [← hq2.out] at hrd
       clear hlt hC hq
       have hL := Hd.mk (fun (w2 : World) (At : Option Addr) (ct : Nat) (Ap : Option Addr) (cp : Nat) (h : Aw w w2 w.heap.size w1.heap.size d [] [] 0 q At ct Ap cp) => line_to ⟨d, [], [], 0, q⟩ l (h.ev hE.out) At ct Ap cp h.bt h.op.bs)
       simp only [List.length_nil] at hL
       go_wp2_with (first | ((with_reducible refine wl_run rfl (ex_act _ rfl hV.out rfl) ?_)) | (go_at_call 9; (with_reducible refine (hL.out _ _ _ _ _ hV.out).mono ?_); rintro e w2 ⟨hc, hk1⟩; have hV2 := Hd.mk (hV.out.keep hk1); clear hV; have hV := hV2; clear hV2 hk1; rcases hc with ⟨rfl, hy⟩ | ⟨s, rfl, hs, hy⟩ | ⟨rfl, hy⟩ <;> (have hy := Hd.mk hy; try have hs := Hd.mk hs) <;> dsimp only) | ((with_reducible refine wl_runG ?hw (ex_sneq _ 9 9 (.tmp 105) (.tmp 106) rfl l l false hself.out rfl rfl) ?_); (case hw => rfl)) | ((with_reducible refine wl_runG ?hw (ex_sneq _ 9 9 (.tmp 105) (.tmp 106) rfl s l true hs.out rfl rfl) ?_); (case hw => rfl)) | ((with_reducible refine wl_res rfl (.tmp 2) (.tmp 110) rfl hV.out [.int .i64 d, .string ⟨([] : List UInt8).toArray⟩, .slice none 0 0, .int .i64 0, .slice Ap q.length cp] rfl rfl rfl one5 ?_); intro w2 hZ hKK hBT hBP; have hZ := Hd.mk hZ; have hKK := Hd.mk hKK; have hBT := Hd.mk hBT; have hBP := Hd.mk hBP) | ((with_reducible refine wl_res rfl (.tmp 2) (.tmp 109) rfl hV.out Z5 rfl rfl rfl one5 ?_); intro w2 hZ hKK hBT hBP; have hZ := Hd.mk hZ; have hKK := Hd.mk hKK))
       ·refine bodyPost_ret (results_act rfl _ _ w.heap.size _ rfl hZ.out rfl) rfl ?_
        exact ⟨⟨⟨d, [], [], 0, q⟩, none, 0, Ap, cp, true, rfl, says_yes hy.out.1 hy.out.2, (fun h => by cases h), hBT.out, hBP.out⟩, hKK.out⟩
       ·refine bodyPost_ret (results_act rfl _ _ w.heap.size _ rfl hZ.out rfl) rfl ?_
        exact ⟨⟨⟨0, [], [], 0, []⟩, none, 0, none, 0, false, rfl, says_no (readS_says hM.out (by rw [hR1.out]; exact hrd.out)) hy.out, (fun _ => rfl), BsF.nil _ _, BsF.nil _ _⟩, hKK.out⟩
       ·refine bodyPost_ret (results_act rfl _ _ w.heap.size _ rfl hZ.out rfl) rfl ?_
        exact ⟨⟨⟨0, [], [], 0, []⟩, none, 0, none, 0, false, rfl, says_no (readS_says hM.out (by rw [hR1.out]; exact hrd.out)) hy.out, (fun _ => rfl), BsF.nil _ _, BsF.nil _ _⟩, hKK.out⟩
end Go.Proofs.YtkcechpaeilaeaaGreatDoor
