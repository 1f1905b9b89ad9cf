/- same. -/
import Derived.Test.YtkcechpaeilaeaaR8
import Derived.Test.YtkcechpaeilaeaaL3
namespace Go.Proofs.Ytkcechpaeilaeaa
open Go.RowKit
set_option linter.unusedVariables false
set_option linter.unusedSimpArgs false
theorem RefAt.cells {w : World} {r : Nat} {M : DM} {G : Nat → Prop} (h : RefAt w r M G) : ∃ As cs Aw cw, w.cell? ⟨r, 3, none⟩ = some (.bool M.off) ∧ w.cell? ⟨r, 1, none⟩ = some (.slice Aw M.ws.length cw) ∧ w.cell? ⟨r, 4, none⟩ = some (.int .i64 M.ops) ∧ w.cell? ⟨r, 0, none⟩ = some (.slice As M.st.length cs) := by
  obtain ⟨hok, sv, wv, ss, ws, hP⟩ := h
  obtain ⟨gs, cs, rfl, -, -, -, -⟩ := hP.sslice hok
  obtain ⟨A, cw, rfl, -⟩ := ownsRow_len hP.wrow
  exact ⟨_, _, _, _, hP.c3, hP.c1, hP.c4, hP.c0⟩
/-- What the walk needs of both devices in a world. -/
theorem tw_facts {w0 w : World} {d r : Nat} {M : DM} {X : Nat → Prop} (h : Tw w0 w d r M M X) {w' : World} (k : Old w w') :
    (∃ As cs Aw cw, w'.cell? ⟨r, 3, none⟩ = some (.bool M.off) ∧ w'.cell? ⟨r, 1, none⟩ = some (.slice Aw M.ws.length cw) ∧ w'.cell? ⟨r, 4, none⟩ = some (.int .i64 M.ops) ∧ w'.cell? ⟨r, 0, none⟩ = some (.slice As M.st.length cs)) ∧
    (Calls Try.prog 28 #[.pointer (some ⟨d, 0, none⟩)] w' fun e w'' => e = .returned (.bool (!M.off)) ∧ w' = w'') ∧
    (Calls Try.prog 18 #[.pointer (some ⟨d, 0, none⟩)] w' fun e w'' => e = .returned (.int .i64 (M.ws.length : Int)) ∧ w' = w'') ∧
    (Calls Try.prog 30 #[.pointer (some ⟨d, 0, none⟩)] w' fun e w'' => e = .returned (.int .i64 M.ops) ∧ w' = w'') ∧
    (Calls Try.prog 29 #[.pointer (some ⟨d, 0, none⟩)] w' fun e w'' => e = .returned (.int .i64 (M.st.length : Int)) ∧ w' = w'') := by
  obtain ⟨F, G, h1, h2, -⟩ := h.old k
  exact ⟨h2.cells, on_at h1, waits_at h1, ops_at h1, pages_at h1⟩
theorem Bs_blk' {w : World} {b c : Nat} {t : TypeId} {l : List Int} (h : Blk w b (u8s l) t) (hc : l.length ≤ c) : Bs w (.slice (some ⟨b, 0, none⟩) l.length c) l :=
  ⟨_, c, rfl, hc, .inr ⟨b, 0, rfl, fun j v hv => by rw [Nat.zero_add, Blk.cell h]; exact hv⟩⟩
theorem u8s_set (l : List Int) (k : Nat) (x : Int) : (u8s l).set k (.int .u8 x) = u8s (l.set k x) := by simp [u8s, List.map_set]
section
variable {w0 w : World} {d r : Nat} {M : DM} {X : Nat → Prop}
set_option maxRecDepth 20000 in
set_option maxHeartbeats 4000000 in
theorem same_no (h : Tw w0 w d r M M X) (p : Int) (hno : (readE M p != 0) = true) : Calls Try.prog 23 #[.pointer (some ⟨d, 0, none⟩), .pointer (some ⟨r, 0, none⟩), .int .i64 p] w fun e w' => e = .returned (.bool true) ∧ Old w w' := by
  have hr1 := tw_dsee h (fun F hF => read_no hF p hno)
  have hr2 := tw_rsee h (fun G hG => rread_no hG p hno)
  have Hr1 := Hd.mk hr1
  have Hr2 := Hd.mk hr2
  obtain ⟨⟨As, cs, Aw, cw, hcs⟩, hon, hwt, hop, hpa⟩ := tw_facts h ((Kp.refl (fun _ => False) w).drew)
  have Hwt := Hd.mk hwt
  have Hop := Hd.mk hop
  have Hpa := Hd.mk hpa
  have HKq : Hd (Old w w) := ⟨Kp.refl _ _⟩
  have Hsm : Hd (Calls Try.prog 19 #[.slice none 0 0, .slice none 0 0] w.drew fun e w' => e = .returned (.bool true) ∧ Old w.drew w') := ⟨same_at (Bs_nil w.drew) (Bs_nil w.drew) (by simp)⟩
  clear h hr1 hr2 hno hwt hop hpa
  generalize readE M p = E at *
  cases hoff : M.off
  all_goals
    rw [hoff] at hcs hon
    have Hcs := Hd.mk hcs
    have Hon := Hd.mk hon
    clear hcs hon hoff
    go_enter Try.func23, Try.ntmps23
    go_wp2_with (first
      | (go_at_call 17; refine Hr1.out.mono ?_; rintro e w' ⟨rfl, rfl⟩)
      | (go_at_call 49; refine Hr2.out.mono ?_; rintro e w' ⟨rfl, rfl⟩))
    go_loop [11, 28] (fun v11 v28 => v28 = .int .i64 0) (fun _ _ => 0)
    case' atStart => exact rfl
    case' round =>
      obtain rfl := hrel
      go_wp2_with (first
        | (go_at_call 17; refine Hr1.out.mono ?_; rintro e w' ⟨rfl, rfl⟩))
      have hS := Hcs
  case round =>
    refine rn_begin (fun W : World => W.cell? ⟨r, 3, none⟩ = some (.bool false) ∧ W.cell? ⟨r, 1, none⟩ = some (.slice Aw M.ws.length cw) ∧ W.cell? ⟨r, 4, none⟩ = some (.int .i64 M.ops) ∧ W.cell? ⟨r, 0, none⟩ = some (.slice As M.st.length cs)) (List.range 55) (by kernel_rfl) ?_
    refine rn_take (i := 0) (dst := some 44) (v := .pointer (some ⟨d, 0, none⟩)) rfl (by kernel_rfl) (fun _ _ _ h => h) rfl rfl (fun W hW => ex_move W _ _ rfl rfl) hS.out ?_
    simp only [Act.put, List.setIfInBounds_toArray, List.set_cons_zero, List.set_cons_succ]
    refine rn_take (i := 2) (dst := some 46) (v := .pointer (some ⟨r, 0, none⟩)) rfl (by kernel_rfl) (fun _ _ _ h => h) rfl rfl (fun W hW => ex_move W _ _ rfl rfl) hS.out ?_
    simp only [Act.put, List.setIfInBounds_toArray, List.set_cons_zero, List.set_cons_succ]
    refine rn_take (i := 3) (dst := some 47) (v := .pointer (some ⟨r, 0, none⟩)) rfl (by kernel_rfl) (fun _ _ _ h => h) rfl rfl (fun W hW => ex_nilCheck W _ _ rfl rfl) hS.out ?_
    simp only [Act.put, List.setIfInBounds_toArray, List.set_cons_zero, List.set_cons_succ]
    refine rn_take (i := 4) (dst := some 48) (v := .pointer (some ⟨r, 3, none⟩)) rfl (by kernel_rfl) (fun _ _ _ h => h) rfl rfl (fun W hW => er_field W 78 3 _ rfl r 0 0 3 3 (by first | rfl | omega) Try.underlying78 rfl (by kernel_rfl) rfl rfl) hS.out ?_
    simp only [Act.put, List.setIfInBounds_toArray, List.set_cons_zero, List.set_cons_succ]
    refine rn_take (i := 5) (dst := some 49) (v := .bool false) rfl (by kernel_rfl) (fun _ _ _ h => h) rfl rfl (fun W hW => ex_load W 4 _ _ rfl ⟨r, 3, none⟩ Try.underlying4 rfl rfl (hW.1)) hS.out ?_
    simp only [Act.put, List.setIfInBounds_toArray, List.set_cons_zero, List.set_cons_succ]
    refine rn_take (i := 6) (dst := some 50) (v := .bool true) rfl (by kernel_rfl) (fun _ _ _ h => h) rfl rfl (fun W hW => ex_not W _ _ rfl false rfl) hS.out ?_
    simp only [Act.put, List.setIfInBounds_toArray, List.set_cons_zero, List.set_cons_succ]
    refine rn_one (i := 1) (dst := some 45) rfl (by kernel_rfl) rfl rfl (fun K hK => ?_)
    refine ow_call 28 _ _ rfl Try.func28 (by kernel_rfl) (by kernel_rfl) [.pointer (some ⟨d, 0, none⟩)] rfl (Hon.out) ?_
    rintro e w' ⟨rfl, rfl⟩
    refine ⟨_, rfl, hK _ _ (fun _ => hS.out) ?_⟩
    clear hK K
    simp only [Act.put, List.setIfInBounds_toArray, List.set_cons_zero, List.set_cons_succ]
    refine rn_take (i := 7) (dst := some 51) (v := .bool true) rfl (by kernel_rfl) (fun _ _ _ h => h) rfl rfl (fun W hW => ex_eqlB W 4 _ _ _ rfl Try.underlying4 _ _ rfl rfl true (by simp)) hS.out ?_
    simp only [Act.put, List.setIfInBounds_toArray, List.set_cons_zero, List.set_cons_succ]
    refine rn_take (i := 8) (dst := some 52) (v := .bool true) rfl (by kernel_rfl) (fun _ _ _ h => h) rfl rfl (fun W hW => ex_move W _ _ rfl rfl) hS.out ?_
    simp only [Act.put, List.setIfInBounds_toArray, List.set_cons_zero, List.set_cons_succ]
    refine rn_take (i := 9) (dst := some 53) (v := .pointer (some ⟨d, 0, none⟩)) rfl (by kernel_rfl) (fun _ _ _ h => h) rfl rfl (fun W hW => ex_move W _ _ rfl rfl) hS.out ?_
    simp only [Act.put, List.setIfInBounds_toArray, List.set_cons_zero, List.set_cons_succ]
    refine rn_take (i := 11) (dst := some 55) (v := .pointer (some ⟨r, 0, none⟩)) rfl (by kernel_rfl) (fun _ _ _ h => h) rfl rfl (fun W hW => ex_move W _ _ rfl rfl) hS.out ?_
    simp only [Act.put, List.setIfInBounds_toArray, List.set_cons_zero, List.set_cons_succ]
    refine rn_take (i := 12) (dst := some 56) (v := .pointer (some ⟨r, 0, none⟩)) rfl (by kernel_rfl) (fun _ _ _ h => h) rfl rfl (fun W hW => ex_nilCheck W _ _ rfl rfl) hS.out ?_
    simp only [Act.put, List.setIfInBounds_toArray, List.set_cons_zero, List.set_cons_succ]
    refine rn_take (i := 13) (dst := some 57) (v := .pointer (some ⟨r, 1, none⟩)) rfl (by kernel_rfl) (fun _ _ _ h => h) rfl rfl (fun W hW => er_field W 78 1 _ rfl r 0 0 1 1 (by first | rfl | omega) Try.underlying78 rfl (by kernel_rfl) rfl rfl) hS.out ?_
    simp only [Act.put, List.setIfInBounds_toArray, List.set_cons_zero, List.set_cons_succ]
    refine rn_take (i := 14) (dst := some 58) (v := .slice Aw M.ws.length cw) rfl (by kernel_rfl) (fun _ _ _ h => h) rfl rfl (fun W hW => ex_load W 76 _ _ rfl ⟨r, 1, none⟩ Try.underlying76 rfl rfl (hW.2.1)) hS.out ?_
    simp only [Act.put, List.setIfInBounds_toArray, List.set_cons_zero, List.set_cons_succ]
    refine rn_take (i := 15) (dst := some 59) (v := .int .i64 ((M.ws.length : Nat) : Int)) rfl (by kernel_rfl) (fun _ _ _ h => h) rfl rfl (fun W hW => ex_len W 76 _ rfl Try.underlying76 _ M.ws.length cw rfl) hS.out ?_
    simp only [Act.put, List.setIfInBounds_toArray, List.set_cons_zero, List.set_cons_succ]
    refine rn_one (i := 10) (dst := some 54) rfl (by kernel_rfl) rfl rfl (fun K hK => ?_)
    refine ow_call 18 _ _ rfl Try.func18 (by kernel_rfl) (by kernel_rfl) [.pointer (some ⟨d, 0, none⟩)] rfl (Hwt.out) ?_
    rintro e w' ⟨rfl, rfl⟩
    refine ⟨_, rfl, hK _ _ (fun _ => hS.out) ?_⟩
    clear hK K
    simp only [Act.put, List.setIfInBounds_toArray, List.set_cons_zero, List.set_cons_succ]
    refine rn_take (i := 16) (dst := some 60) (v := .bool true) rfl (by kernel_rfl) (fun _ _ _ h => h) rfl rfl (fun W hW => ex_eql W 3 _ _ _ rfl .i64 ((M.ws.length : Nat) : Int) ((M.ws.length : Nat) : Int) rfl rfl true (by simp)) hS.out ?_
    simp only [Act.put, List.setIfInBounds_toArray, List.set_cons_zero, List.set_cons_succ]
    refine rn_take (i := 17) (dst := some 61) (v := .bool true) rfl (by kernel_rfl) (fun _ _ _ h => h) rfl rfl (fun W hW => ex_pick W _ _ _ rfl true _ rfl rfl) hS.out ?_
    simp only [Act.put, List.setIfInBounds_toArray, List.set_cons_zero, List.set_cons_succ]
    refine rn_take (i := 18) (dst := some 62) (v := .bool true) rfl (by kernel_rfl) (fun _ _ _ h => h) rfl rfl (fun W hW => ex_move W _ _ rfl rfl) hS.out ?_
    simp only [Act.put, List.setIfInBounds_toArray, List.set_cons_zero, List.set_cons_succ]
    refine rn_take (i := 19) (dst := some 63) (v := .pointer (some ⟨d, 0, none⟩)) rfl (by kernel_rfl) (fun _ _ _ h => h) rfl rfl (fun W hW => ex_move W _ _ rfl rfl) hS.out ?_
    simp only [Act.put, List.setIfInBounds_toArray, List.set_cons_zero, List.set_cons_succ]
    refine rn_take (i := 21) (dst := some 65) (v := .pointer (some ⟨r, 0, none⟩)) rfl (by kernel_rfl) (fun _ _ _ h => h) rfl rfl (fun W hW => ex_move W _ _ rfl rfl) hS.out ?_
    simp only [Act.put, List.setIfInBounds_toArray, List.set_cons_zero, List.set_cons_succ]
    refine rn_take (i := 22) (dst := some 66) (v := .pointer (some ⟨r, 0, none⟩)) rfl (by kernel_rfl) (fun _ _ _ h => h) rfl rfl (fun W hW => ex_nilCheck W _ _ rfl rfl) hS.out ?_
    simp only [Act.put, List.setIfInBounds_toArray, List.set_cons_zero, List.set_cons_succ]
    refine rn_take (i := 23) (dst := some 67) (v := .pointer (some ⟨r, 4, none⟩)) rfl (by kernel_rfl) (fun _ _ _ h => h) rfl rfl (fun W hW => er_field W 78 4 _ rfl r 0 0 4 4 (by first | rfl | omega) Try.underlying78 rfl (by kernel_rfl) rfl rfl) hS.out ?_
    simp only [Act.put, List.setIfInBounds_toArray, List.set_cons_zero, List.set_cons_succ]
    refine rn_take (i := 24) (dst := some 68) (v := .int .i64 (M.ops)) rfl (by kernel_rfl) (fun _ _ _ h => h) rfl rfl (fun W hW => ex_load W 3 _ _ rfl ⟨r, 4, none⟩ Try.underlying3 rfl rfl (hW.2.2.1)) hS.out ?_
    simp only [Act.put, List.setIfInBounds_toArray, List.set_cons_zero, List.set_cons_succ]
    refine rn_one (i := 20) (dst := some 64) rfl (by kernel_rfl) rfl rfl (fun K hK => ?_)
    refine ow_call 30 _ _ rfl Try.func30 (by kernel_rfl) (by kernel_rfl) [.pointer (some ⟨d, 0, none⟩)] rfl (Hop.out) ?_
    rintro e w' ⟨rfl, rfl⟩
    refine ⟨_, rfl, hK _ _ (fun _ => hS.out) ?_⟩
    clear hK K
    simp only [Act.put, List.setIfInBounds_toArray, List.set_cons_zero, List.set_cons_succ]
    refine rn_take (i := 25) (dst := some 69) (v := .bool true) rfl (by kernel_rfl) (fun _ _ _ h => h) rfl rfl (fun W hW => ex_eql W 3 _ _ _ rfl .i64 M.ops M.ops rfl rfl true (by simp)) hS.out ?_
    simp only [Act.put, List.setIfInBounds_toArray, List.set_cons_zero, List.set_cons_succ]
    refine rn_take (i := 26) (dst := some 70) (v := .bool true) rfl (by kernel_rfl) (fun _ _ _ h => h) rfl rfl (fun W hW => ex_pick W _ _ _ rfl true _ rfl rfl) hS.out ?_
    simp only [Act.put, List.setIfInBounds_toArray, List.set_cons_zero, List.set_cons_succ]
    refine rn_take (i := 27) (dst := some 71) (v := .bool true) rfl (by kernel_rfl) (fun _ _ _ h => h) rfl rfl (fun W hW => ex_move W _ _ rfl rfl) hS.out ?_
    simp only [Act.put, List.setIfInBounds_toArray, List.set_cons_zero, List.set_cons_succ]
    refine rn_take (i := 28) (dst := some 72) (v := .pointer (some ⟨d, 0, none⟩)) rfl (by kernel_rfl) (fun _ _ _ h => h) rfl rfl (fun W hW => ex_move W _ _ rfl rfl) hS.out ?_
    simp only [Act.put, List.setIfInBounds_toArray, List.set_cons_zero, List.set_cons_succ]
    refine rn_take (i := 30) (dst := some 74) (v := .pointer (some ⟨r, 0, none⟩)) rfl (by kernel_rfl) (fun _ _ _ h => h) rfl rfl (fun W hW => ex_move W _ _ rfl rfl) hS.out ?_
    simp only [Act.put, List.setIfInBounds_toArray, List.set_cons_zero, List.set_cons_succ]
    refine rn_take (i := 31) (dst := some 75) (v := .pointer (some ⟨r, 0, none⟩)) rfl (by kernel_rfl) (fun _ _ _ h => h) rfl rfl (fun W hW => ex_nilCheck W _ _ rfl rfl) hS.out ?_
    simp only [Act.put, List.setIfInBounds_toArray, List.set_cons_zero, List.set_cons_succ]
    refine rn_take (i := 32) (dst := some 76) (v := .pointer (some ⟨r, 0, none⟩)) rfl (by kernel_rfl) (fun _ _ _ h => h) rfl rfl (fun W hW => er_field W 78 0 _ rfl r 0 0 0 0 (by first | rfl | omega) Try.underlying78 rfl (by kernel_rfl) rfl rfl) hS.out ?_
    simp only [Act.put, List.setIfInBounds_toArray, List.set_cons_zero, List.set_cons_succ]
    refine rn_take (i := 33) (dst := some 77) (v := .slice As M.st.length cs) rfl (by kernel_rfl) (fun _ _ _ h => h) rfl rfl (fun W hW => ex_load W 42 _ _ rfl ⟨r, 0, none⟩ Try.underlying42 rfl rfl (hW.2.2.2)) hS.out ?_
    simp only [Act.put, List.setIfInBounds_toArray, List.set_cons_zero, List.set_cons_succ]
    refine rn_take (i := 34) (dst := some 78) (v := .int .i64 ((M.st.length : Nat) : Int)) rfl (by kernel_rfl) (fun _ _ _ h => h) rfl rfl (fun W hW => ex_len W 42 _ rfl Try.underlying42 _ M.st.length cs rfl) hS.out ?_
    simp only [Act.put, List.setIfInBounds_toArray, List.set_cons_zero, List.set_cons_succ]
    refine rn_one (i := 29) (dst := some 73) rfl (by kernel_rfl) rfl rfl (fun K hK => ?_)
    refine ow_call 29 _ _ rfl Try.func29 (by kernel_rfl) (by kernel_rfl) [.pointer (some ⟨d, 0, none⟩)] rfl (Hpa.out) ?_
    rintro e w' ⟨rfl, rfl⟩
    refine ⟨_, rfl, hK _ _ (fun _ => hS.out) ?_⟩
    clear hK K
    simp only [Act.put, List.setIfInBounds_toArray, List.set_cons_zero, List.set_cons_succ]
    refine rn_take (i := 35) (dst := some 79) (v := .bool true) rfl (by kernel_rfl) (fun _ _ _ h => h) rfl rfl (fun W hW => ex_eql W 3 _ _ _ rfl .i64 ((M.st.length : Nat) : Int) ((M.st.length : Nat) : Int) rfl rfl true (by simp)) hS.out ?_
    simp only [Act.put, List.setIfInBounds_toArray, List.set_cons_zero, List.set_cons_succ]
    refine rn_take (i := 36) (dst := some 80) (v := .bool true) rfl (by kernel_rfl) (fun _ _ _ h => h) rfl rfl (fun W hW => ex_pick W _ _ _ rfl true _ rfl rfl) hS.out ?_
    simp only [Act.put, List.setIfInBounds_toArray, List.set_cons_zero, List.set_cons_succ]
    refine rn_take (i := 37) (dst := some 81) (v := .bool true) rfl (by kernel_rfl) (fun _ _ _ h => h) rfl rfl (fun W hW => ex_move W _ _ rfl rfl) hS.out ?_
    simp only [Act.put, List.setIfInBounds_toArray, List.set_cons_zero, List.set_cons_succ]
    refine rn_take (i := 38) (dst := some 82) (v := .int .i64 (E)) rfl (by kernel_rfl) (fun _ _ _ h => h) rfl rfl (fun W hW => ex_move W _ _ rfl rfl) hS.out ?_
    simp only [Act.put, List.setIfInBounds_toArray, List.set_cons_zero, List.set_cons_succ]
    refine rn_take (i := 39) (dst := some 83) (v := .int .i64 (E)) rfl (by kernel_rfl) (fun _ _ _ h => h) rfl rfl (fun W hW => ex_move W _ _ rfl rfl) hS.out ?_
    simp only [Act.put, List.setIfInBounds_toArray, List.set_cons_zero, List.set_cons_succ]
    refine rn_take (i := 40) (dst := some 84) (v := .bool true) rfl (by kernel_rfl) (fun _ _ _ h => h) rfl rfl (fun W hW => ex_eql W 27 _ _ _ rfl .i64 E E rfl rfl true (by simp)) hS.out ?_
    simp only [Act.put, List.setIfInBounds_toArray, List.set_cons_zero, List.set_cons_succ]
    refine rn_take (i := 41) (dst := some 85) (v := .bool true) rfl (by kernel_rfl) (fun _ _ _ h => h) rfl rfl (fun W hW => ex_pick W _ _ _ rfl true _ rfl rfl) hS.out ?_
    simp only [Act.put, List.setIfInBounds_toArray, List.set_cons_zero, List.set_cons_succ]
    refine rn_take (i := 42) (dst := some 86) (v := .bool true) rfl (by kernel_rfl) (fun _ _ _ h => h) rfl rfl (fun W hW => ex_move W _ _ rfl rfl) hS.out ?_
    simp only [Act.put, List.setIfInBounds_toArray, List.set_cons_zero, List.set_cons_succ]
    refine rn_take (i := 43) (dst := some 87) (v := .slice none 0 0) rfl (by kernel_rfl) (fun _ _ _ h => h) rfl rfl (fun W hW => ex_move W _ _ rfl rfl) hS.out ?_
    simp only [Act.put, List.setIfInBounds_toArray, List.set_cons_zero, List.set_cons_succ]
    refine rn_take (i := 44) (dst := some 88) (v := .int .i64 0) rfl (by kernel_rfl) (fun _ _ _ h => h) rfl rfl (fun W hW => ex_len W 23 _ rfl Try.underlying23 _ 0 0 rfl) hS.out ?_
    simp only [Act.put, List.setIfInBounds_toArray, List.set_cons_zero, List.set_cons_succ]
    refine rn_take (i := 45) (dst := some 89) (v := .slice none 0 0) rfl (by kernel_rfl) (fun _ _ _ h => h) rfl rfl (fun W hW => ex_move W _ _ rfl rfl) hS.out ?_
    simp only [Act.put, List.setIfInBounds_toArray, List.set_cons_zero, List.set_cons_succ]
    refine rn_take (i := 46) (dst := some 90) (v := .int .i64 0) rfl (by kernel_rfl) (fun _ _ _ h => h) rfl rfl (fun W hW => ex_len W 23 _ rfl Try.underlying23 _ 0 0 rfl) hS.out ?_
    simp only [Act.put, List.setIfInBounds_toArray, List.set_cons_zero, List.set_cons_succ]
    refine rn_take (i := 47) (dst := some 91) (v := .bool true) rfl (by kernel_rfl) (fun _ _ _ h => h) rfl rfl (fun W hW => ex_eql W 3 _ _ _ rfl .i64 0 0 rfl rfl true (by simp)) hS.out ?_
    simp only [Act.put, List.setIfInBounds_toArray, List.set_cons_zero, List.set_cons_succ]
    refine rn_take (i := 48) (dst := some 92) (v := .bool true) rfl (by kernel_rfl) (fun _ _ _ h => h) rfl rfl (fun W hW => ex_pick W _ _ _ rfl true _ rfl rfl) hS.out ?_
    simp only [Act.put, List.setIfInBounds_toArray, List.set_cons_zero, List.set_cons_succ]
    refine rn_take (i := 49) (dst := some 93) (v := .bool true) rfl (by kernel_rfl) (fun _ _ _ h => h) rfl rfl (fun W hW => ex_move W _ _ rfl rfl) hS.out ?_
    simp only [Act.put, List.setIfInBounds_toArray, List.set_cons_zero, List.set_cons_succ]
    refine rn_take (i := 50) (dst := some 94) (v := .slice none 0 0) rfl (by kernel_rfl) (fun _ _ _ h => h) rfl rfl (fun W hW => ex_move W _ _ rfl rfl) hS.out ?_
    simp only [Act.put, List.setIfInBounds_toArray, List.set_cons_zero, List.set_cons_succ]
    refine rn_take (i := 51) (dst := some 95) (v := .slice none 0 0) rfl (by kernel_rfl) (fun _ _ _ h => h) rfl rfl (fun W hW => ex_move W _ _ rfl rfl) hS.out ?_
    simp only [Act.put, List.setIfInBounds_toArray, List.set_cons_zero, List.set_cons_succ]
    refine rn_one (i := 52) (dst := some 96) rfl (by kernel_rfl) rfl rfl (fun K hK => ?_)
    refine ow_call 19 _ _ rfl Try.func19 (by kernel_rfl) (by kernel_rfl) [.slice none 0 0, .slice none 0 0] rfl Hsm.out ?_
    rintro e w9 ⟨rfl, hk9⟩
    have hS9 : Hd ((fun W : World => W.cell? ⟨r, 3, none⟩ = some (.bool false) ∧ W.cell? ⟨r, 1, none⟩ = some (.slice Aw M.ws.length cw) ∧ W.cell? ⟨r, 4, none⟩ = some (.int .i64 M.ops) ∧ W.cell? ⟨r, 0, none⟩ = some (.slice As M.st.length cs)) w9) := by
      obtain ⟨a1, a2, a3, a4⟩ := hS.out
      have old : ∀ b o u, w.drew.cell? ⟨b, o, none⟩ = some u → w9.cell? ⟨b, o, none⟩ = some u := fun b o u h => (World.cell?_of_block (hk9.block b (World.block_lt_of_cell? w.drew _ h) id)).trans h
      exact ⟨old _ _ _ a1, old _ _ _ a2, old _ _ _ a3, old _ _ _ a4⟩
    have K9 : Hd (Old w w9) := ⟨(HKq.out.drew).trans hk9⟩
    refine ⟨_, rfl, hK _ _ (fun _ => hS9.out) ?_⟩
    clear hK K hS hk9
    have hS := hS9
    simp only [Act.put, List.setIfInBounds_toArray, List.set_cons_zero, List.set_cons_succ]
    refine rn_take (i := 53) (dst := some 97) (v := .bool true) rfl (by kernel_rfl) (fun _ _ _ h => h) rfl rfl (fun W hW => ex_pick W _ _ _ rfl true _ rfl rfl) hS.out ?_
    simp only [Act.put, List.setIfInBounds_toArray, List.set_cons_zero, List.set_cons_succ]
    refine rn_take (i := 54) (dst := some 6) (v := .bool true) rfl (by kernel_rfl) (fun _ _ _ h => h) rfl rfl (fun W hW => ex_assign W _ _ rfl rfl) hS.out ?_
    simp only [Act.put, List.setIfInBounds_toArray, List.set_cons_zero, List.set_cons_succ]
    refine rn_done (by kernel_rfl) ?_ _
    clear hS hS9
    go_wp2_with fail
    go_ret
    exact ⟨rfl, K9.out⟩
  case round =>
    refine rn_begin (fun W : World => W.cell? ⟨r, 3, none⟩ = some (.bool true) ∧ W.cell? ⟨r, 1, none⟩ = some (.slice Aw M.ws.length cw) ∧ W.cell? ⟨r, 4, none⟩ = some (.int .i64 M.ops) ∧ W.cell? ⟨r, 0, none⟩ = some (.slice As M.st.length cs)) (List.range 55) (by kernel_rfl) ?_
    refine rn_take (i := 0) (dst := some 44) (v := .pointer (some ⟨d, 0, none⟩)) rfl (by kernel_rfl) (fun _ _ _ h => h) rfl rfl (fun W hW => ex_move W _ _ rfl rfl) hS.out ?_
    simp only [Act.put, List.setIfInBounds_toArray, List.set_cons_zero, List.set_cons_succ]
    refine rn_take (i := 2) (dst := some 46) (v := .pointer (some ⟨r, 0, none⟩)) rfl (by kernel_rfl) (fun _ _ _ h => h) rfl rfl (fun W hW => ex_move W _ _ rfl rfl) hS.out ?_
    simp only [Act.put, List.setIfInBounds_toArray, List.set_cons_zero, List.set_cons_succ]
    refine rn_take (i := 3) (dst := some 47) (v := .pointer (some ⟨r, 0, none⟩)) rfl (by kernel_rfl) (fun _ _ _ h => h) rfl rfl (fun W hW => ex_nilCheck W _ _ rfl rfl) hS.out ?_
    simp only [Act.put, List.setIfInBounds_toArray, List.set_cons_zero, List.set_cons_succ]
    refine rn_take (i := 4) (dst := some 48) (v := .pointer (some ⟨r, 3, none⟩)) rfl (by kernel_rfl) (fun _ _ _ h => h) rfl rfl (fun W hW => er_field W 78 3 _ rfl r 0 0 3 3 (by first | rfl | omega) Try.underlying78 rfl (by kernel_rfl) rfl rfl) hS.out ?_
    simp only [Act.put, List.setIfInBounds_toArray, List.set_cons_zero, List.set_cons_succ]
    refine rn_take (i := 5) (dst := some 49) (v := .bool true) rfl (by kernel_rfl) (fun _ _ _ h => h) rfl rfl (fun W hW => ex_load W 4 _ _ rfl ⟨r, 3, none⟩ Try.underlying4 rfl rfl (hW.1)) hS.out ?_
    simp only [Act.put, List.setIfInBounds_toArray, List.set_cons_zero, List.set_cons_succ]
    refine rn_take (i := 6) (dst := some 50) (v := .bool false) rfl (by kernel_rfl) (fun _ _ _ h => h) rfl rfl (fun W hW => ex_not W _ _ rfl true rfl) hS.out ?_
    simp only [Act.put, List.setIfInBounds_toArray, List.set_cons_zero, List.set_cons_succ]
    refine rn_one (i := 1) (dst := some 45) rfl (by kernel_rfl) rfl rfl (fun K hK => ?_)
    refine ow_call 28 _ _ rfl Try.func28 (by kernel_rfl) (by kernel_rfl) [.pointer (some ⟨d, 0, none⟩)] rfl (Hon.out) ?_
    rintro e w' ⟨rfl, rfl⟩
    refine ⟨_, rfl, hK _ _ (fun _ => hS.out) ?_⟩
    clear hK K
    simp only [Act.put, List.setIfInBounds_toArray, List.set_cons_zero, List.set_cons_succ]
    refine rn_take (i := 7) (dst := some 51) (v := .bool true) rfl (by kernel_rfl) (fun _ _ _ h => h) rfl rfl (fun W hW => ex_eqlB W 4 _ _ _ rfl Try.underlying4 _ _ rfl rfl true (by simp)) hS.out ?_
    simp only [Act.put, List.setIfInBounds_toArray, List.set_cons_zero, List.set_cons_succ]
    refine rn_take (i := 8) (dst := some 52) (v := .bool true) rfl (by kernel_rfl) (fun _ _ _ h => h) rfl rfl (fun W hW => ex_move W _ _ rfl rfl) hS.out ?_
    simp only [Act.put, List.setIfInBounds_toArray, List.set_cons_zero, List.set_cons_succ]
    refine rn_take (i := 9) (dst := some 53) (v := .pointer (some ⟨d, 0, none⟩)) rfl (by kernel_rfl) (fun _ _ _ h => h) rfl rfl (fun W hW => ex_move W _ _ rfl rfl) hS.out ?_
    simp only [Act.put, List.setIfInBounds_toArray, List.set_cons_zero, List.set_cons_succ]
    refine rn_take (i := 11) (dst := some 55) (v := .pointer (some ⟨r, 0, none⟩)) rfl (by kernel_rfl) (fun _ _ _ h => h) rfl rfl (fun W hW => ex_move W _ _ rfl rfl) hS.out ?_
    simp only [Act.put, List.setIfInBounds_toArray, List.set_cons_zero, List.set_cons_succ]
    refine rn_take (i := 12) (dst := some 56) (v := .pointer (some ⟨r, 0, none⟩)) rfl (by kernel_rfl) (fun _ _ _ h => h) rfl rfl (fun W hW => ex_nilCheck W _ _ rfl rfl) hS.out ?_
    simp only [Act.put, List.setIfInBounds_toArray, List.set_cons_zero, List.set_cons_succ]
    refine rn_take (i := 13) (dst := some 57) (v := .pointer (some ⟨r, 1, none⟩)) rfl (by kernel_rfl) (fun _ _ _ h => h) rfl rfl (fun W hW => er_field W 78 1 _ rfl r 0 0 1 1 (by first | rfl | omega) Try.underlying78 rfl (by kernel_rfl) rfl rfl) hS.out ?_
    simp only [Act.put, List.setIfInBounds_toArray, List.set_cons_zero, List.set_cons_succ]
    refine rn_take (i := 14) (dst := some 58) (v := .slice Aw M.ws.length cw) rfl (by kernel_rfl) (fun _ _ _ h => h) rfl rfl (fun W hW => ex_load W 76 _ _ rfl ⟨r, 1, none⟩ Try.underlying76 rfl rfl (hW.2.1)) hS.out ?_
    simp only [Act.put, List.setIfInBounds_toArray, List.set_cons_zero, List.set_cons_succ]
    refine rn_take (i := 15) (dst := some 59) (v := .int .i64 ((M.ws.length : Nat) : Int)) rfl (by kernel_rfl) (fun _ _ _ h => h) rfl rfl (fun W hW => ex_len W 76 _ rfl Try.underlying76 _ M.ws.length cw rfl) hS.out ?_
    simp only [Act.put, List.setIfInBounds_toArray, List.set_cons_zero, List.set_cons_succ]
    refine rn_one (i := 10) (dst := some 54) rfl (by kernel_rfl) rfl rfl (fun K hK => ?_)
    refine ow_call 18 _ _ rfl Try.func18 (by kernel_rfl) (by kernel_rfl) [.pointer (some ⟨d, 0, none⟩)] rfl (Hwt.out) ?_
    rintro e w' ⟨rfl, rfl⟩
    refine ⟨_, rfl, hK _ _ (fun _ => hS.out) ?_⟩
    clear hK K
    simp only [Act.put, List.setIfInBounds_toArray, List.set_cons_zero, List.set_cons_succ]
    refine rn_take (i := 16) (dst := some 60) (v := .bool true) rfl (by kernel_rfl) (fun _ _ _ h => h) rfl rfl (fun W hW => ex_eql W 3 _ _ _ rfl .i64 ((M.ws.length : Nat) : Int) ((M.ws.length : Nat) : Int) rfl rfl true (by simp)) hS.out ?_
    simp only [Act.put, List.setIfInBounds_toArray, List.set_cons_zero, List.set_cons_succ]
    refine rn_take (i := 17) (dst := some 61) (v := .bool true) rfl (by kernel_rfl) (fun _ _ _ h => h) rfl rfl (fun W hW => ex_pick W _ _ _ rfl true _ rfl rfl) hS.out ?_
    simp only [Act.put, List.setIfInBounds_toArray, List.set_cons_zero, List.set_cons_succ]
    refine rn_take (i := 18) (dst := some 62) (v := .bool true) rfl (by kernel_rfl) (fun _ _ _ h => h) rfl rfl (fun W hW => ex_move W _ _ rfl rfl) hS.out ?_
    simp only [Act.put, List.setIfInBounds_toArray, List.set_cons_zero, List.set_cons_succ]
    refine rn_take (i := 19) (dst := some 63) (v := .pointer (some ⟨d, 0, none⟩)) rfl (by kernel_rfl) (fun _ _ _ h => h) rfl rfl (fun W hW => ex_move W _ _ rfl rfl) hS.out ?_
    simp only [Act.put, List.setIfInBounds_toArray, List.set_cons_zero, List.set_cons_succ]
    refine rn_take (i := 21) (dst := some 65) (v := .pointer (some ⟨r, 0, none⟩)) rfl (by kernel_rfl) (fun _ _ _ h => h) rfl rfl (fun W hW => ex_move W _ _ rfl rfl) hS.out ?_
    simp only [Act.put, List.setIfInBounds_toArray, List.set_cons_zero, List.set_cons_succ]
    refine rn_take (i := 22) (dst := some 66) (v := .pointer (some ⟨r, 0, none⟩)) rfl (by kernel_rfl) (fun _ _ _ h => h) rfl rfl (fun W hW => ex_nilCheck W _ _ rfl rfl) hS.out ?_
    simp only [Act.put, List.setIfInBounds_toArray, List.set_cons_zero, List.set_cons_succ]
    refine rn_take (i := 23) (dst := some 67) (v := .pointer (some ⟨r, 4, none⟩)) rfl (by kernel_rfl) (fun _ _ _ h => h) rfl rfl (fun W hW => er_field W 78 4 _ rfl r 0 0 4 4 (by first | rfl | omega) Try.underlying78 rfl (by kernel_rfl) rfl rfl) hS.out ?_
    simp only [Act.put, List.setIfInBounds_toArray, List.set_cons_zero, List.set_cons_succ]
    refine rn_take (i := 24) (dst := some 68) (v := .int .i64 (M.ops)) rfl (by kernel_rfl) (fun _ _ _ h => h) rfl rfl (fun W hW => ex_load W 3 _ _ rfl ⟨r, 4, none⟩ Try.underlying3 rfl rfl (hW.2.2.1)) hS.out ?_
    simp only [Act.put, List.setIfInBounds_toArray, List.set_cons_zero, List.set_cons_succ]
    refine rn_one (i := 20) (dst := some 64) rfl (by kernel_rfl) rfl rfl (fun K hK => ?_)
    refine ow_call 30 _ _ rfl Try.func30 (by kernel_rfl) (by kernel_rfl) [.pointer (some ⟨d, 0, none⟩)] rfl (Hop.out) ?_
    rintro e w' ⟨rfl, rfl⟩
    refine ⟨_, rfl, hK _ _ (fun _ => hS.out) ?_⟩
    clear hK K
    simp only [Act.put, List.setIfInBounds_toArray, List.set_cons_zero, List.set_cons_succ]
    refine rn_take (i := 25) (dst := some 69) (v := .bool true) rfl (by kernel_rfl) (fun _ _ _ h => h) rfl rfl (fun W hW => ex_eql W 3 _ _ _ rfl .i64 M.ops M.ops rfl rfl true (by simp)) hS.out ?_
    simp only [Act.put, List.setIfInBounds_toArray, List.set_cons_zero, List.set_cons_succ]
    refine rn_take (i := 26) (dst := some 70) (v := .bool true) rfl (by kernel_rfl) (fun _ _ _ h => h) rfl rfl (fun W hW => ex_pick W _ _ _ rfl true _ rfl rfl) hS.out ?_
    simp only [Act.put, List.setIfInBounds_toArray, List.set_cons_zero, List.set_cons_succ]
    refine rn_take (i := 27) (dst := some 71) (v := .bool true) rfl (by kernel_rfl) (fun _ _ _ h => h) rfl rfl (fun W hW => ex_move W _ _ rfl rfl) hS.out ?_
    simp only [Act.put, List.setIfInBounds_toArray, List.set_cons_zero, List.set_cons_succ]
    refine rn_take (i := 28) (dst := some 72) (v := .pointer (some ⟨d, 0, none⟩)) rfl (by kernel_rfl) (fun _ _ _ h => h) rfl rfl (fun W hW => ex_move W _ _ rfl rfl) hS.out ?_
    simp only [Act.put, List.setIfInBounds_toArray, List.set_cons_zero, List.set_cons_succ]
    refine rn_take (i := 30) (dst := some 74) (v := .pointer (some ⟨r, 0, none⟩)) rfl (by kernel_rfl) (fun _ _ _ h => h) rfl rfl (fun W hW => ex_move W _ _ rfl rfl) hS.out ?_
    simp only [Act.put, List.setIfInBounds_toArray, List.set_cons_zero, List.set_cons_succ]
    refine rn_take (i := 31) (dst := some 75) (v := .pointer (some ⟨r, 0, none⟩)) rfl (by kernel_rfl) (fun _ _ _ h => h) rfl rfl (fun W hW => ex_nilCheck W _ _ rfl rfl) hS.out ?_
    simp only [Act.put, List.setIfInBounds_toArray, List.set_cons_zero, List.set_cons_succ]
    refine rn_take (i := 32) (dst := some 76) (v := .pointer (some ⟨r, 0, none⟩)) rfl (by kernel_rfl) (fun _ _ _ h => h) rfl rfl (fun W hW => er_field W 78 0 _ rfl r 0 0 0 0 (by first | rfl | omega) Try.underlying78 rfl (by kernel_rfl) rfl rfl) hS.out ?_
    simp only [Act.put, List.setIfInBounds_toArray, List.set_cons_zero, List.set_cons_succ]
    refine rn_take (i := 33) (dst := some 77) (v := .slice As M.st.length cs) rfl (by kernel_rfl) (fun _ _ _ h => h) rfl rfl (fun W hW => ex_load W 42 _ _ rfl ⟨r, 0, none⟩ Try.underlying42 rfl rfl (hW.2.2.2)) hS.out ?_
    simp only [Act.put, List.setIfInBounds_toArray, List.set_cons_zero, List.set_cons_succ]
    refine rn_take (i := 34) (dst := some 78) (v := .int .i64 ((M.st.length : Nat) : Int)) rfl (by kernel_rfl) (fun _ _ _ h => h) rfl rfl (fun W hW => ex_len W 42 _ rfl Try.underlying42 _ M.st.length cs rfl) hS.out ?_
    simp only [Act.put, List.setIfInBounds_toArray, List.set_cons_zero, List.set_cons_succ]
    refine rn_one (i := 29) (dst := some 73) rfl (by kernel_rfl) rfl rfl (fun K hK => ?_)
    refine ow_call 29 _ _ rfl Try.func29 (by kernel_rfl) (by kernel_rfl) [.pointer (some ⟨d, 0, none⟩)] rfl (Hpa.out) ?_
    rintro e w' ⟨rfl, rfl⟩
    refine ⟨_, rfl, hK _ _ (fun _ => hS.out) ?_⟩
    clear hK K
    simp only [Act.put, List.setIfInBounds_toArray, List.set_cons_zero, List.set_cons_succ]
    refine rn_take (i := 35) (dst := some 79) (v := .bool true) rfl (by kernel_rfl) (fun _ _ _ h => h) rfl rfl (fun W hW => ex_eql W 3 _ _ _ rfl .i64 ((M.st.length : Nat) : Int) ((M.st.length : Nat) : Int) rfl rfl true (by simp)) hS.out ?_
    simp only [Act.put, List.setIfInBounds_toArray, List.set_cons_zero, List.set_cons_succ]
    refine rn_take (i := 36) (dst := some 80) (v := .bool true) rfl (by kernel_rfl) (fun _ _ _ h => h) rfl rfl (fun W hW => ex_pick W _ _ _ rfl true _ rfl rfl) hS.out ?_
    simp only [Act.put, List.setIfInBounds_toArray, List.set_cons_zero, List.set_cons_succ]
    refine rn_take (i := 37) (dst := some 81) (v := .bool true) rfl (by kernel_rfl) (fun _ _ _ h => h) rfl rfl (fun W hW => ex_move W _ _ rfl rfl) hS.out ?_
    simp only [Act.put, List.setIfInBounds_toArray, List.set_cons_zero, List.set_cons_succ]
    refine rn_take (i := 38) (dst := some 82) (v := .int .i64 (E)) rfl (by kernel_rfl) (fun _ _ _ h => h) rfl rfl (fun W hW => ex_move W _ _ rfl rfl) hS.out ?_
    simp only [Act.put, List.setIfInBounds_toArray, List.set_cons_zero, List.set_cons_succ]
    refine rn_take (i := 39) (dst := some 83) (v := .int .i64 (E)) rfl (by kernel_rfl) (fun _ _ _ h => h) rfl rfl (fun W hW => ex_move W _ _ rfl rfl) hS.out ?_
    simp only [Act.put, List.setIfInBounds_toArray, List.set_cons_zero, List.set_cons_succ]
    refine rn_take (i := 40) (dst := some 84) (v := .bool true) rfl (by kernel_rfl) (fun _ _ _ h => h) rfl rfl (fun W hW => ex_eql W 27 _ _ _ rfl .i64 E E rfl rfl true (by simp)) hS.out ?_
    simp only [Act.put, List.setIfInBounds_toArray, List.set_cons_zero, List.set_cons_succ]
    refine rn_take (i := 41) (dst := some 85) (v := .bool true) rfl (by kernel_rfl) (fun _ _ _ h => h) rfl rfl (fun W hW => ex_pick W _ _ _ rfl true _ rfl rfl) hS.out ?_
    simp only [Act.put, List.setIfInBounds_toArray, List.set_cons_zero, List.set_cons_succ]
    refine rn_take (i := 42) (dst := some 86) (v := .bool true) rfl (by kernel_rfl) (fun _ _ _ h => h) rfl rfl (fun W hW => ex_move W _ _ rfl rfl) hS.out ?_
    simp only [Act.put, List.setIfInBounds_toArray, List.set_cons_zero, List.set_cons_succ]
    refine rn_take (i := 43) (dst := some 87) (v := .slice none 0 0) rfl (by kernel_rfl) (fun _ _ _ h => h) rfl rfl (fun W hW => ex_move W _ _ rfl rfl) hS.out ?_
    simp only [Act.put, List.setIfInBounds_toArray, List.set_cons_zero, List.set_cons_succ]
    refine rn_take (i := 44) (dst := some 88) (v := .int .i64 0) rfl (by kernel_rfl) (fun _ _ _ h => h) rfl rfl (fun W hW => ex_len W 23 _ rfl Try.underlying23 _ 0 0 rfl) hS.out ?_
    simp only [Act.put, List.setIfInBounds_toArray, List.set_cons_zero, List.set_cons_succ]
    refine rn_take (i := 45) (dst := some 89) (v := .slice none 0 0) rfl (by kernel_rfl) (fun _ _ _ h => h) rfl rfl (fun W hW => ex_move W _ _ rfl rfl) hS.out ?_
    simp only [Act.put, List.setIfInBounds_toArray, List.set_cons_zero, List.set_cons_succ]
    refine rn_take (i := 46) (dst := some 90) (v := .int .i64 0) rfl (by kernel_rfl) (fun _ _ _ h => h) rfl rfl (fun W hW => ex_len W 23 _ rfl Try.underlying23 _ 0 0 rfl) hS.out ?_
    simp only [Act.put, List.setIfInBounds_toArray, List.set_cons_zero, List.set_cons_succ]
    refine rn_take (i := 47) (dst := some 91) (v := .bool true) rfl (by kernel_rfl) (fun _ _ _ h => h) rfl rfl (fun W hW => ex_eql W 3 _ _ _ rfl .i64 0 0 rfl rfl true (by simp)) hS.out ?_
    simp only [Act.put, List.setIfInBounds_toArray, List.set_cons_zero, List.set_cons_succ]
    refine rn_take (i := 48) (dst := some 92) (v := .bool true) rfl (by kernel_rfl) (fun _ _ _ h => h) rfl rfl (fun W hW => ex_pick W _ _ _ rfl true _ rfl rfl) hS.out ?_
    simp only [Act.put, List.setIfInBounds_toArray, List.set_cons_zero, List.set_cons_succ]
    refine rn_take (i := 49) (dst := some 93) (v := .bool true) rfl (by kernel_rfl) (fun _ _ _ h => h) rfl rfl (fun W hW => ex_move W _ _ rfl rfl) hS.out ?_
    simp only [Act.put, List.setIfInBounds_toArray, List.set_cons_zero, List.set_cons_succ]
    refine rn_take (i := 50) (dst := some 94) (v := .slice none 0 0) rfl (by kernel_rfl) (fun _ _ _ h => h) rfl rfl (fun W hW => ex_move W _ _ rfl rfl) hS.out ?_
    simp only [Act.put, List.setIfInBounds_toArray, List.set_cons_zero, List.set_cons_succ]
    refine rn_take (i := 51) (dst := some 95) (v := .slice none 0 0) rfl (by kernel_rfl) (fun _ _ _ h => h) rfl rfl (fun W hW => ex_move W _ _ rfl rfl) hS.out ?_
    simp only [Act.put, List.setIfInBounds_toArray, List.set_cons_zero, List.set_cons_succ]
    refine rn_one (i := 52) (dst := some 96) rfl (by kernel_rfl) rfl rfl (fun K hK => ?_)
    refine ow_call 19 _ _ rfl Try.func19 (by kernel_rfl) (by kernel_rfl) [.slice none 0 0, .slice none 0 0] rfl Hsm.out ?_
    rintro e w9 ⟨rfl, hk9⟩
    have hS9 : Hd ((fun W : World => W.cell? ⟨r, 3, none⟩ = some (.bool true) ∧ W.cell? ⟨r, 1, none⟩ = some (.slice Aw M.ws.length cw) ∧ W.cell? ⟨r, 4, none⟩ = some (.int .i64 M.ops) ∧ W.cell? ⟨r, 0, none⟩ = some (.slice As M.st.length cs)) w9) := by
      obtain ⟨a1, a2, a3, a4⟩ := hS.out
      have old : ∀ b o u, w.drew.cell? ⟨b, o, none⟩ = some u → w9.cell? ⟨b, o, none⟩ = some u := fun b o u h => (World.cell?_of_block (hk9.block b (World.block_lt_of_cell? w.drew _ h) id)).trans h
      exact ⟨old _ _ _ a1, old _ _ _ a2, old _ _ _ a3, old _ _ _ a4⟩
    have K9 : Hd (Old w w9) := ⟨(HKq.out.drew).trans hk9⟩
    refine ⟨_, rfl, hK _ _ (fun _ => hS9.out) ?_⟩
    clear hK K hS hk9
    have hS := hS9
    simp only [Act.put, List.setIfInBounds_toArray, List.set_cons_zero, List.set_cons_succ]
    refine rn_take (i := 53) (dst := some 97) (v := .bool true) rfl (by kernel_rfl) (fun _ _ _ h => h) rfl rfl (fun W hW => ex_pick W _ _ _ rfl true _ rfl rfl) hS.out ?_
    simp only [Act.put, List.setIfInBounds_toArray, List.set_cons_zero, List.set_cons_succ]
    refine rn_take (i := 54) (dst := some 6) (v := .bool true) rfl (by kernel_rfl) (fun _ _ _ h => h) rfl rfl (fun W hW => ex_assign W _ _ rfl rfl) hS.out ?_
    simp only [Act.put, List.setIfInBounds_toArray, List.set_cons_zero, List.set_cons_succ]
    refine rn_done (by kernel_rfl) ?_ _
    clear hS hS9
    go_wp2_with fail
    go_ret
    exact ⟨rfl, K9.out⟩
set_option maxRecDepth 20000 in
set_option maxHeartbeats 4000000 in
theorem same_yes (h : Tw w0 w d r M M X) (p : Nat) (hyes : readE M p = 0) : Calls Try.prog 23 #[.pointer (some ⟨d, 0, none⟩), .pointer (some ⟨r, 0, none⟩), .int .i64 p] w fun e w' => e = .returned (.bool true) ∧ Old w w' := by
  have Hr1 := Hd.mk (fun w' (k : Old w w') => tw_dsee (h.old k) (fun F hF => read_yes hF p hyes))
  have Hr2 := Hd.mk (fun w' (k : Old w w') => tw_rsee (h.old k) (fun G hG => rread_yes hG p hyes))
  have Hfa := Hd.mk (fun w' (k : Old w w') => tw_facts h k)
  have hpl : (shownM M p).length = 256 := shownM_length h.ok (by
    have := atE_zero (n := 256) hyes
    omega)
  have Hpl := Hd.mk hpl
  have hoff : M.off = false := by
    unfold readE atE at hyes
    split at hyes
    · cases hyes
    · cases ho : M.off
      · rfl
      · rw [pwrE, ho] at hyes; cases hyes
  have Hoff := Hd.mk hoff
  clear h hyes hpl hoff
  generalize shownM M p = pg at *
  go_enter Try.func23, Try.ntmps23
  go_wp2_with (first
    | (go_at_call 17; (with_reducible refine (Hr1.out w (Kp.refl _ _)).mono ?_); rintro e w1 ⟨b1, rfl, hz1, hb1, hk1⟩; have Z1 := Hd.mk hz1; have B1 := Hd.mk hb1; have K1 := Hd.mk hk1; clear hz1 hb1 hk1)
    | (go_at_call 49; (with_reducible refine (Hr2.out w1 K1.out).mono ?_); rintro e w2 ⟨v2, rfl, hv2, hf2, hk2⟩; obtain ⟨A2, c2, rfl, -⟩ := ownsRow_len hv2; have V2 := Hd.mk hv2; have B2 := Hd.mk (hk2.keeps B1.out id); have K2 := Hd.mk (K1.out.trans hk2); clear hv2 hf2 hk2))
  have hne : Hd (∀ k, (Value.slice A2 256 c2).ownBlock = some k → k ≠ b1) := ⟨fun k hk e => by
    subst e
    have := ownsRow_type V2.out hk B2.out
    cases this⟩
  go_loopw [11, 28] (fun v11 v28 wr => ∃ (k : Nat) (l : List Int), v28 = .int .i64 k ∧ k ≤ 256 ∧ l.length = 256 ∧ Hd (Blk wr b1 (u8s l) 68) ∧ Hd (Kp (· = b1) w2 wr)) (fun _ v28 _ => 256 - (intOf v28).toNat)
  case atStart => exact ⟨0, _, rfl, Nat.zero_le _, Hpl.out, B2, ⟨Kp.refl _ _⟩⟩
  case round =>
    obtain ⟨k, l, rfl, hk, hl, HB, HK⟩ := hrel
    by_cases hlt : k < 256
    · have hltI : (k : Int) < 256 := by omega
      have Hlt := Hd.mk hlt
      have Hl := Hd.mk hl
      have hc : wr.cell? ⟨b1, k, none⟩ = some (.int .u8 (l[k]'(by omega))) := by rw [Blk.cell HB.out, u8s_get, List.getElem?_eq_getElem (by omega)]; rfl
      have hf : wr.frozen? ⟨b1, k, none⟩ = false := Blk.free HB.out k
      have hfin := fun y => Hd.mk (show Blk (wr.setCell ⟨b1, k, none⟩ (.int .u8 y)) b1 (u8s (l.set k y)) 68 from by rw [← u8s_set]; exact Blk.set HB.out k _)
      generalize l[k]'(by omega) = x at *
      clear hlt hk hl
      go_wp2_with fail
      exact ⟨⟨k + 1, _, by go_num, Hlt.out, by rw [List.length_set]; exact Hl.out, hfin _, ⟨HK.out.cell _ _⟩⟩, by have := Hlt.out; simp [intOf]; omega⟩
    · have e : k = 256 := by omega
      subst e
      have KQ : Hd (Old w wr) := ⟨K2.out.andThen HK.out (fun i hi e => by have := Z1.out; omega)⟩
      have V2r : Hd (wr.ownsRow 0 5 1 (.slice A2 256 c2) 256 (u8s pg)) := ⟨ownsRow_keep V2.out (fun k hk hl => HK.out.block k hl (hne.out k hk))⟩
      clear hlt hk
      go_wp2_with (first
        | (go_at_call 17; (with_reducible refine (Hr1.out wr KQ.out).mono ?_); rintro e w3 ⟨b3, rfl, hz3, hb3, hk3⟩; have B3 := Hd.mk hb3; have HKq := Hd.mk (KQ.out.trans hk3); have V3 := Hd.mk (ownsRow_keep V2r.out (fun k hk hl => hk3.block k hl id)); clear hz3 hb3 hk3))
      obtain ⟨⟨As, cs, Aw, cw, hcs⟩, hon, hwt, hop, hpa⟩ := Hfa.out w3.drew HKq.out.drew
      rw [Hoff.out] at hcs hon
      have Hon := Hd.mk hon
      have Hwt := Hd.mk hwt
      have Hop := Hd.mk hop
      have Hpa := Hd.mk hpa
      have Hsm : Hd (Calls Try.prog 19 #[.slice (some ⟨b3, 0, none⟩) 256 256, .slice A2 256 c2] w3.drew fun e w' => e = .returned (.bool true) ∧ Old w3.drew w') := ⟨by
        have h1 : Bs w3.drew (.slice (some ⟨b3, 0, none⟩) pg.length 256) pg := Bs_blk' (w := w3.drew) B3.out (by rw [Hpl.out]; exact Nat.le_refl _)
        have h2 : Bs w3.drew (.slice A2 256 c2) pg := (ownsRow_Bs' Hpl.out.symm V3.out).keep (w' := w3.drew) (fun _ _ _ => rfl)
        have := same_at h1 h2 (by rw [Hpl.out]; omega)
        rw [Hpl.out, decide_eq_true rfl] at this
        exact this⟩
      have hS := Hd.mk hcs
      clear hon hwt hop hpa hcs
      refine rn_begin (fun W : World => W.cell? ⟨r, 3, none⟩ = some (.bool false) ∧ W.cell? ⟨r, 1, none⟩ = some (.slice Aw M.ws.length cw) ∧ W.cell? ⟨r, 4, none⟩ = some (.int .i64 M.ops) ∧ W.cell? ⟨r, 0, none⟩ = some (.slice As M.st.length cs)) (List.range 55) (by kernel_rfl) ?_
      refine rn_take (i := 0) (dst := some 44) (v := .pointer (some ⟨d, 0, none⟩)) rfl (by kernel_rfl) (fun _ _ _ h => h) rfl rfl (fun W hW => ex_move W _ _ rfl rfl) hS.out ?_
      simp only [Act.put, List.setIfInBounds_toArray, List.set_cons_zero, List.set_cons_succ]
      refine rn_take (i := 2) (dst := some 46) (v := .pointer (some ⟨r, 0, none⟩)) rfl (by kernel_rfl) (fun _ _ _ h => h) rfl rfl (fun W hW => ex_move W _ _ rfl rfl) hS.out ?_
      simp only [Act.put, List.setIfInBounds_toArray, List.set_cons_zero, List.set_cons_succ]
      refine rn_take (i := 3) (dst := some 47) (v := .pointer (some ⟨r, 0, none⟩)) rfl (by kernel_rfl) (fun _ _ _ h => h) rfl rfl (fun W hW => ex_nilCheck W _ _ rfl rfl) hS.out ?_
      simp only [Act.put, List.setIfInBounds_toArray, List.set_cons_zero, List.set_cons_succ]
      refine rn_take (i := 4) (dst := some 48) (v := .pointer (some ⟨r, 3, none⟩)) rfl (by kernel_rfl) (fun _ _ _ h => h) rfl rfl (fun W hW => er_field W 78 3 _ rfl r 0 0 3 3 (by first | rfl | omega) Try.underlying78 rfl (by kernel_rfl) rfl rfl) hS.out ?_
      simp only [Act.put, List.setIfInBounds_toArray, List.set_cons_zero, List.set_cons_succ]
      refine rn_take (i := 5) (dst := some 49) (v := .bool false) rfl (by kernel_rfl) (fun _ _ _ h => h) rfl rfl (fun W hW => ex_load W 4 _ _ rfl ⟨r, 3, none⟩ Try.underlying4 rfl rfl (hW.1)) hS.out ?_
      simp only [Act.put, List.setIfInBounds_toArray, List.set_cons_zero, List.set_cons_succ]
      refine rn_take (i := 6) (dst := some 50) (v := .bool true) rfl (by kernel_rfl) (fun _ _ _ h => h) rfl rfl (fun W hW => ex_not W _ _ rfl false rfl) hS.out ?_
      simp only [Act.put, List.setIfInBounds_toArray, List.set_cons_zero, List.set_cons_succ]
      refine rn_one (i := 1) (dst := some 45) rfl (by kernel_rfl) rfl rfl (fun K hK => ?_)
      refine ow_call 28 _ _ rfl Try.func28 (by kernel_rfl) (by kernel_rfl) [.pointer (some ⟨d, 0, none⟩)] rfl (Hon.out) ?_
      rintro e w' ⟨rfl, rfl⟩
      refine ⟨_, rfl, hK _ _ (fun _ => hS.out) ?_⟩
      clear hK K
      simp only [Act.put, List.setIfInBounds_toArray, List.set_cons_zero, List.set_cons_succ]
      refine rn_take (i := 7) (dst := some 51) (v := .bool true) rfl (by kernel_rfl) (fun _ _ _ h => h) rfl rfl (fun W hW => ex_eqlB W 4 _ _ _ rfl Try.underlying4 _ _ rfl rfl true (by simp)) hS.out ?_
      simp only [Act.put, List.setIfInBounds_toArray, List.set_cons_zero, List.set_cons_succ]
      refine rn_take (i := 8) (dst := some 52) (v := .bool true) rfl (by kernel_rfl) (fun _ _ _ h => h) rfl rfl (fun W hW => ex_move W _ _ rfl rfl) hS.out ?_
      simp only [Act.put, List.setIfInBounds_toArray, List.set_cons_zero, List.set_cons_succ]
      refine rn_take (i := 9) (dst := some 53) (v := .pointer (some ⟨d, 0, none⟩)) rfl (by kernel_rfl) (fun _ _ _ h => h) rfl rfl (fun W hW => ex_move W _ _ rfl rfl) hS.out ?_
      simp only [Act.put, List.setIfInBounds_toArray, List.set_cons_zero, List.set_cons_succ]
      refine rn_take (i := 11) (dst := some 55) (v := .pointer (some ⟨r, 0, none⟩)) rfl (by kernel_rfl) (fun _ _ _ h => h) rfl rfl (fun W hW => ex_move W _ _ rfl rfl) hS.out ?_
      simp only [Act.put, List.setIfInBounds_toArray, List.set_cons_zero, List.set_cons_succ]
      refine rn_take (i := 12) (dst := some 56) (v := .pointer (some ⟨r, 0, none⟩)) rfl (by kernel_rfl) (fun _ _ _ h => h) rfl rfl (fun W hW => ex_nilCheck W _ _ rfl rfl) hS.out ?_
      simp only [Act.put, List.setIfInBounds_toArray, List.set_cons_zero, List.set_cons_succ]
      refine rn_take (i := 13) (dst := some 57) (v := .pointer (some ⟨r, 1, none⟩)) rfl (by kernel_rfl) (fun _ _ _ h => h) rfl rfl (fun W hW => er_field W 78 1 _ rfl r 0 0 1 1 (by first | rfl | omega) Try.underlying78 rfl (by kernel_rfl) rfl rfl) hS.out ?_
      simp only [Act.put, List.setIfInBounds_toArray, List.set_cons_zero, List.set_cons_succ]
      refine rn_take (i := 14) (dst := some 58) (v := .slice Aw M.ws.length cw) rfl (by kernel_rfl) (fun _ _ _ h => h) rfl rfl (fun W hW => ex_load W 76 _ _ rfl ⟨r, 1, none⟩ Try.underlying76 rfl rfl (hW.2.1)) hS.out ?_
      simp only [Act.put, List.setIfInBounds_toArray, List.set_cons_zero, List.set_cons_succ]
      refine rn_take (i := 15) (dst := some 59) (v := .int .i64 ((M.ws.length : Nat) : Int)) rfl (by kernel_rfl) (fun _ _ _ h => h) rfl rfl (fun W hW => ex_len W 76 _ rfl Try.underlying76 _ M.ws.length cw rfl) hS.out ?_
      simp only [Act.put, List.setIfInBounds_toArray, List.set_cons_zero, List.set_cons_succ]
      refine rn_one (i := 10) (dst := some 54) rfl (by kernel_rfl) rfl rfl (fun K hK => ?_)
      refine ow_call 18 _ _ rfl Try.func18 (by kernel_rfl) (by kernel_rfl) [.pointer (some ⟨d, 0, none⟩)] rfl (Hwt.out) ?_
      rintro e w' ⟨rfl, rfl⟩
      refine ⟨_, rfl, hK _ _ (fun _ => hS.out) ?_⟩
      clear hK K
      simp only [Act.put, List.setIfInBounds_toArray, List.set_cons_zero, List.set_cons_succ]
      refine rn_take (i := 16) (dst := some 60) (v := .bool true) rfl (by kernel_rfl) (fun _ _ _ h => h) rfl rfl (fun W hW => ex_eql W 3 _ _ _ rfl .i64 ((M.ws.length : Nat) : Int) ((M.ws.length : Nat) : Int) rfl rfl true (by simp)) hS.out ?_
      simp only [Act.put, List.setIfInBounds_toArray, List.set_cons_zero, List.set_cons_succ]
      refine rn_take (i := 17) (dst := some 61) (v := .bool true) rfl (by kernel_rfl) (fun _ _ _ h => h) rfl rfl (fun W hW => ex_pick W _ _ _ rfl true _ rfl rfl) hS.out ?_
      simp only [Act.put, List.setIfInBounds_toArray, List.set_cons_zero, List.set_cons_succ]
      refine rn_take (i := 18) (dst := some 62) (v := .bool true) rfl (by kernel_rfl) (fun _ _ _ h => h) rfl rfl (fun W hW => ex_move W _ _ rfl rfl) hS.out ?_
      simp only [Act.put, List.setIfInBounds_toArray, List.set_cons_zero, List.set_cons_succ]
      refine rn_take (i := 19) (dst := some 63) (v := .pointer (some ⟨d, 0, none⟩)) rfl (by kernel_rfl) (fun _ _ _ h => h) rfl rfl (fun W hW => ex_move W _ _ rfl rfl) hS.out ?_
      simp only [Act.put, List.setIfInBounds_toArray, List.set_cons_zero, List.set_cons_succ]
      refine rn_take (i := 21) (dst := some 65) (v := .pointer (some ⟨r, 0, none⟩)) rfl (by kernel_rfl) (fun _ _ _ h => h) rfl rfl (fun W hW => ex_move W _ _ rfl rfl) hS.out ?_
      simp only [Act.put, List.setIfInBounds_toArray, List.set_cons_zero, List.set_cons_succ]
      refine rn_take (i := 22) (dst := some 66) (v := .pointer (some ⟨r, 0, none⟩)) rfl (by kernel_rfl) (fun _ _ _ h => h) rfl rfl (fun W hW => ex_nilCheck W _ _ rfl rfl) hS.out ?_
      simp only [Act.put, List.setIfInBounds_toArray, List.set_cons_zero, List.set_cons_succ]
      refine rn_take (i := 23) (dst := some 67) (v := .pointer (some ⟨r, 4, none⟩)) rfl (by kernel_rfl) (fun _ _ _ h => h) rfl rfl (fun W hW => er_field W 78 4 _ rfl r 0 0 4 4 (by first | rfl | omega) Try.underlying78 rfl (by kernel_rfl) rfl rfl) hS.out ?_
      simp only [Act.put, List.setIfInBounds_toArray, List.set_cons_zero, List.set_cons_succ]
      refine rn_take (i := 24) (dst := some 68) (v := .int .i64 (M.ops)) rfl (by kernel_rfl) (fun _ _ _ h => h) rfl rfl (fun W hW => ex_load W 3 _ _ rfl ⟨r, 4, none⟩ Try.underlying3 rfl rfl (hW.2.2.1)) hS.out ?_
      simp only [Act.put, List.setIfInBounds_toArray, List.set_cons_zero, List.set_cons_succ]
      refine rn_one (i := 20) (dst := some 64) rfl (by kernel_rfl) rfl rfl (fun K hK => ?_)
      refine ow_call 30 _ _ rfl Try.func30 (by kernel_rfl) (by kernel_rfl) [.pointer (some ⟨d, 0, none⟩)] rfl (Hop.out) ?_
      rintro e w' ⟨rfl, rfl⟩
      refine ⟨_, rfl, hK _ _ (fun _ => hS.out) ?_⟩
      clear hK K
      simp only [Act.put, List.setIfInBounds_toArray, List.set_cons_zero, List.set_cons_succ]
      refine rn_take (i := 25) (dst := some 69) (v := .bool true) rfl (by kernel_rfl) (fun _ _ _ h => h) rfl rfl (fun W hW => ex_eql W 3 _ _ _ rfl .i64 M.ops M.ops rfl rfl true (by simp)) hS.out ?_
      simp only [Act.put, List.setIfInBounds_toArray, List.set_cons_zero, List.set_cons_succ]
      refine rn_take (i := 26) (dst := some 70) (v := .bool true) rfl (by kernel_rfl) (fun _ _ _ h => h) rfl rfl (fun W hW => ex_pick W _ _ _ rfl true _ rfl rfl) hS.out ?_
      simp only [Act.put, List.setIfInBounds_toArray, List.set_cons_zero, List.set_cons_succ]
      refine rn_take (i := 27) (dst := some 71) (v := .bool true) rfl (by kernel_rfl) (fun _ _ _ h => h) rfl rfl (fun W hW => ex_move W _ _ rfl rfl) hS.out ?_
      simp only [Act.put, List.setIfInBounds_toArray, List.set_cons_zero, List.set_cons_succ]
      refine rn_take (i := 28) (dst := some 72) (v := .pointer (some ⟨d, 0, none⟩)) rfl (by kernel_rfl) (fun _ _ _ h => h) rfl rfl (fun W hW => ex_move W _ _ rfl rfl) hS.out ?_
      simp only [Act.put, List.setIfInBounds_toArray, List.set_cons_zero, List.set_cons_succ]
      refine rn_take (i := 30) (dst := some 74) (v := .pointer (some ⟨r, 0, none⟩)) rfl (by kernel_rfl) (fun _ _ _ h => h) rfl rfl (fun W hW => ex_move W _ _ rfl rfl) hS.out ?_
      simp only [Act.put, List.setIfInBounds_toArray, List.set_cons_zero, List.set_cons_succ]
      refine rn_take (i := 31) (dst := some 75) (v := .pointer (some ⟨r, 0, none⟩)) rfl (by kernel_rfl) (fun _ _ _ h => h) rfl rfl (fun W hW => ex_nilCheck W _ _ rfl rfl) hS.out ?_
      simp only [Act.put, List.setIfInBounds_toArray, List.set_cons_zero, List.set_cons_succ]
      refine rn_take (i := 32) (dst := some 76) (v := .pointer (some ⟨r, 0, none⟩)) rfl (by kernel_rfl) (fun _ _ _ h => h) rfl rfl (fun W hW => er_field W 78 0 _ rfl r 0 0 0 0 (by first | rfl | omega) Try.underlying78 rfl (by kernel_rfl) rfl rfl) hS.out ?_
      simp only [Act.put, List.setIfInBounds_toArray, List.set_cons_zero, List.set_cons_succ]
      refine rn_take (i := 33) (dst := some 77) (v := .slice As M.st.length cs) rfl (by kernel_rfl) (fun _ _ _ h => h) rfl rfl (fun W hW => ex_load W 42 _ _ rfl ⟨r, 0, none⟩ Try.underlying42 rfl rfl (hW.2.2.2)) hS.out ?_
      simp only [Act.put, List.setIfInBounds_toArray, List.set_cons_zero, List.set_cons_succ]
      refine rn_take (i := 34) (dst := some 78) (v := .int .i64 ((M.st.length : Nat) : Int)) rfl (by kernel_rfl) (fun _ _ _ h => h) rfl rfl (fun W hW => ex_len W 42 _ rfl Try.underlying42 _ M.st.length cs rfl) hS.out ?_
      simp only [Act.put, List.setIfInBounds_toArray, List.set_cons_zero, List.set_cons_succ]
      refine rn_one (i := 29) (dst := some 73) rfl (by kernel_rfl) rfl rfl (fun K hK => ?_)
      refine ow_call 29 _ _ rfl Try.func29 (by kernel_rfl) (by kernel_rfl) [.pointer (some ⟨d, 0, none⟩)] rfl (Hpa.out) ?_
      rintro e w' ⟨rfl, rfl⟩
      refine ⟨_, rfl, hK _ _ (fun _ => hS.out) ?_⟩
      clear hK K
      simp only [Act.put, List.setIfInBounds_toArray, List.set_cons_zero, List.set_cons_succ]
      refine rn_take (i := 35) (dst := some 79) (v := .bool true) rfl (by kernel_rfl) (fun _ _ _ h => h) rfl rfl (fun W hW => ex_eql W 3 _ _ _ rfl .i64 ((M.st.length : Nat) : Int) ((M.st.length : Nat) : Int) rfl rfl true (by simp)) hS.out ?_
      simp only [Act.put, List.setIfInBounds_toArray, List.set_cons_zero, List.set_cons_succ]
      refine rn_take (i := 36) (dst := some 80) (v := .bool true) rfl (by kernel_rfl) (fun _ _ _ h => h) rfl rfl (fun W hW => ex_pick W _ _ _ rfl true _ rfl rfl) hS.out ?_
      simp only [Act.put, List.setIfInBounds_toArray, List.set_cons_zero, List.set_cons_succ]
      refine rn_take (i := 37) (dst := some 81) (v := .bool true) rfl (by kernel_rfl) (fun _ _ _ h => h) rfl rfl (fun W hW => ex_move W _ _ rfl rfl) hS.out ?_
      simp only [Act.put, List.setIfInBounds_toArray, List.set_cons_zero, List.set_cons_succ]
      refine rn_take (i := 38) (dst := some 82) (v := .int .i64 0) rfl (by kernel_rfl) (fun _ _ _ h => h) rfl rfl (fun W hW => ex_move W _ _ rfl rfl) hS.out ?_
      simp only [Act.put, List.setIfInBounds_toArray, List.set_cons_zero, List.set_cons_succ]
      refine rn_take (i := 39) (dst := some 83) (v := .int .i64 0) rfl (by kernel_rfl) (fun _ _ _ h => h) rfl rfl (fun W hW => ex_move W _ _ rfl rfl) hS.out ?_
      simp only [Act.put, List.setIfInBounds_toArray, List.set_cons_zero, List.set_cons_succ]
      refine rn_take (i := 40) (dst := some 84) (v := .bool true) rfl (by kernel_rfl) (fun _ _ _ h => h) rfl rfl (fun W hW => ex_eql W 27 _ _ _ rfl .i64 0 0 rfl rfl true (by simp)) hS.out ?_
      simp only [Act.put, List.setIfInBounds_toArray, List.set_cons_zero, List.set_cons_succ]
      refine rn_take (i := 41) (dst := some 85) (v := .bool true) rfl (by kernel_rfl) (fun _ _ _ h => h) rfl rfl (fun W hW => ex_pick W _ _ _ rfl true _ rfl rfl) hS.out ?_
      simp only [Act.put, List.setIfInBounds_toArray, List.set_cons_zero, List.set_cons_succ]
      refine rn_take (i := 42) (dst := some 86) (v := .bool true) rfl (by kernel_rfl) (fun _ _ _ h => h) rfl rfl (fun W hW => ex_move W _ _ rfl rfl) hS.out ?_
      simp only [Act.put, List.setIfInBounds_toArray, List.set_cons_zero, List.set_cons_succ]
      refine rn_take (i := 43) (dst := some 87) (v := .slice (some ⟨b1, 0, none⟩) 256 256) rfl (by kernel_rfl) (fun _ _ _ h => h) rfl rfl (fun W hW => ex_move W _ _ rfl rfl) hS.out ?_
      simp only [Act.put, List.setIfInBounds_toArray, List.set_cons_zero, List.set_cons_succ]
      refine rn_take (i := 44) (dst := some 88) (v := .int .i64 256) rfl (by kernel_rfl) (fun _ _ _ h => h) rfl rfl (fun W hW => ex_len W 23 _ rfl Try.underlying23 _ 256 256 rfl) hS.out ?_
      simp only [Act.put, List.setIfInBounds_toArray, List.set_cons_zero, List.set_cons_succ]
      refine rn_take (i := 45) (dst := some 89) (v := .slice A2 256 c2) rfl (by kernel_rfl) (fun _ _ _ h => h) rfl rfl (fun W hW => ex_move W _ _ rfl rfl) hS.out ?_
      simp only [Act.put, List.setIfInBounds_toArray, List.set_cons_zero, List.set_cons_succ]
      refine rn_take (i := 46) (dst := some 90) (v := .int .i64 256) rfl (by kernel_rfl) (fun _ _ _ h => h) rfl rfl (fun W hW => ex_len W 23 _ rfl Try.underlying23 _ 256 c2 rfl) hS.out ?_
      simp only [Act.put, List.setIfInBounds_toArray, List.set_cons_zero, List.set_cons_succ]
      refine rn_take (i := 47) (dst := some 91) (v := .bool true) rfl (by kernel_rfl) (fun _ _ _ h => h) rfl rfl (fun W hW => ex_eql W 3 _ _ _ rfl .i64 256 256 rfl rfl true (by simp)) hS.out ?_
      simp only [Act.put, List.setIfInBounds_toArray, List.set_cons_zero, List.set_cons_succ]
      refine rn_take (i := 48) (dst := some 92) (v := .bool true) rfl (by kernel_rfl) (fun _ _ _ h => h) rfl rfl (fun W hW => ex_pick W _ _ _ rfl true _ rfl rfl) hS.out ?_
      simp only [Act.put, List.setIfInBounds_toArray, List.set_cons_zero, List.set_cons_succ]
      refine rn_take (i := 49) (dst := some 93) (v := .bool true) rfl (by kernel_rfl) (fun _ _ _ h => h) rfl rfl (fun W hW => ex_move W _ _ rfl rfl) hS.out ?_
      simp only [Act.put, List.setIfInBounds_toArray, List.set_cons_zero, List.set_cons_succ]
      refine rn_take (i := 50) (dst := some 94) (v := .slice (some ⟨b3, 0, none⟩) 256 256) rfl (by kernel_rfl) (fun _ _ _ h => h) rfl rfl (fun W hW => ex_move W _ _ rfl rfl) hS.out ?_
      simp only [Act.put, List.setIfInBounds_toArray, List.set_cons_zero, List.set_cons_succ]
      refine rn_take (i := 51) (dst := some 95) (v := .slice A2 256 c2) rfl (by kernel_rfl) (fun _ _ _ h => h) rfl rfl (fun W hW => ex_move W _ _ rfl rfl) hS.out ?_
      simp only [Act.put, List.setIfInBounds_toArray, List.set_cons_zero, List.set_cons_succ]
      refine rn_one (i := 52) (dst := some 96) rfl (by kernel_rfl) rfl rfl (fun K hK => ?_)
      refine ow_call 19 _ _ rfl Try.func19 (by kernel_rfl) (by kernel_rfl) [.slice (some ⟨b3, 0, none⟩) 256 256, .slice A2 256 c2] rfl Hsm.out ?_
      rintro e w9 ⟨rfl, hk9⟩
      have hS9 : Hd ((fun W : World => W.cell? ⟨r, 3, none⟩ = some (.bool false) ∧ W.cell? ⟨r, 1, none⟩ = some (.slice Aw M.ws.length cw) ∧ W.cell? ⟨r, 4, none⟩ = some (.int .i64 M.ops) ∧ W.cell? ⟨r, 0, none⟩ = some (.slice As M.st.length cs)) w9) := by
        obtain ⟨a1, a2, a3, a4⟩ := hS.out
        have old : ∀ b o u, w3.drew.cell? ⟨b, o, none⟩ = some u → w9.cell? ⟨b, o, none⟩ = some u := fun b o u h => (World.cell?_of_block (hk9.block b (World.block_lt_of_cell? w3.drew _ h) id)).trans h
        exact ⟨old _ _ _ a1, old _ _ _ a2, old _ _ _ a3, old _ _ _ a4⟩
      have K9 : Hd (Old w w9) := ⟨(HKq.out.drew).trans hk9⟩
      refine ⟨_, rfl, hK _ _ (fun _ => hS9.out) ?_⟩
      clear hK K hS hk9
      have hS := hS9
      simp only [Act.put, List.setIfInBounds_toArray, List.set_cons_zero, List.set_cons_succ]
      refine rn_take (i := 53) (dst := some 97) (v := .bool true) rfl (by kernel_rfl) (fun _ _ _ h => h) rfl rfl (fun W hW => ex_pick W _ _ _ rfl true _ rfl rfl) hS.out ?_
      simp only [Act.put, List.setIfInBounds_toArray, List.set_cons_zero, List.set_cons_succ]
      refine rn_take (i := 54) (dst := some 6) (v := .bool true) rfl (by kernel_rfl) (fun _ _ _ h => h) rfl rfl (fun W hW => ex_assign W _ _ rfl rfl) hS.out ?_
      simp only [Act.put, List.setIfInBounds_toArray, List.set_cons_zero, List.set_cons_succ]
      refine rn_done (by kernel_rfl) ?_ _
      clear hS hS9
      go_wp2_with fail
      go_ret
      exact ⟨rfl, K9.out⟩
theorem same_tw (h : Tw w0 w d r M M X) (p : Int) : Calls Try.prog 23 #[.pointer (some ⟨d, 0, none⟩), .pointer (some ⟨r, 0, none⟩), .int .i64 p] w fun e w' => e = .returned (.bool true) ∧ Old w w' := by
  by_cases hz : readE M p = 0
  · have h1 := atE_zero (n := 256) hz
    obtain ⟨q, rfl⟩ : ∃ q : Nat, p = q := ⟨p.toNat, by omega⟩
    exact same_yes h q hz
  · exact same_no h p (by simpa using hz)
end
end Go.Proofs.Ytkcechpaeilaeaa
