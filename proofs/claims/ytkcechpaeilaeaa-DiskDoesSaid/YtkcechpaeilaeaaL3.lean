/- The document's Compare, Same. -/
import Derived.Test.YtkcechpaeilaeaaL2
namespace Go.Proofs.Ytkcechpaeilaeaa
open Go.RowKit
set_option linter.unusedVariables false
set_option linter.unusedSimpArgs false

/-- Which of two stands ahead. -/
def cmpM (la lb : List Int) : Int := if la = lb then 0 else if pre la lb = la.length then -1 else if pre la lb = lb.length ∨ lb.getD (pre la lb) 0 < la.getD (pre la lb) 0 then 1 else -1
theorem cmpM_zero (la lb : List Int) : cmpM la lb = 0 ↔ la = lb := by
  unfold cmpM
  split
  · simp [*]
  · split
    · simp [*]
    · split <;> simp [*]

set_option maxHeartbeats 1000000 in
theorem compare_at {w : World} {va vb : Value} {la lb : List Int} (ha : Bs w va la) (hb : Bs w vb lb) (hl : la.length ≤ 1000000000) : Calls Try.prog 38 #[va, vb] w fun e w' => e = .returned (.int .i64 (cmpM la lb)) ∧ Kp (fun _ => False) w w' := by
  have hpre := Hd.mk (prefix_at ha hb hl)
  have Ha := Hd.mk ha
  have Hb := Hd.mk hb
  have hle := pre_le la lb
  have hsm := pre_same la lb
  obtain ⟨A, cA, rfl, hcA, hra⟩ := ha
  obtain ⟨B, cB, rfl, hcB, hrb⟩ := hb
  have hE : Hd (cmpM la lb = if la = lb then 0 else if pre la lb = la.length then -1 else if pre la lb = lb.length ∨ lb.getD (pre la lb) 0 < la.getD (pre la lb) 0 then 1 else -1) := ⟨rfl⟩
  generalize hp : pre la lb = p at *
  generalize cmpM la lb = r at *
  clear hcA hcB hl hp
  go_enter Try.func38, Try.ntmps38
  by_cases h1 : p = la.length
  · by_cases h2 : p = lb.length
    · have hr := hE.out
      rw [if_pos (hsm.1 ⟨h1, h2⟩)] at hr
      subst hr
      have h1I : ((p : Int) == (la.length : Int)) = true := by rw [h1]; simp
      have h2I : ((p : Int) == (lb.length : Int)) = true := by rw [h2]; simp
      clear hsm hle h1 h2 hra hrb hE
      go_wp2_with (first | (go_at_call 50; refine hpre.out.mono ?_; rintro e w1 ⟨rfl, hk1⟩; have HK := Hd.mk hk1; clear hk1))
      go_ret
      exact ⟨rfl, HK.out⟩
    · have hr := hE.out
      rw [if_neg (fun e => h2 (hsm.2 e).2), if_pos h1] at hr
      subst hr
      have h1I : ((p : Int) == (la.length : Int)) = true := by rw [h1]; simp
      have h2I : ((p : Int) == (lb.length : Int)) = false := by simpa using fun e => h2 (by omega)
      clear hsm hle h1 h2 hra hrb hE
      go_wp2_with (first | (go_at_call 50; refine hpre.out.mono ?_; rintro e w1 ⟨rfl, hk1⟩; have HK := Hd.mk hk1; clear hk1))
      go_ret
      exact ⟨rfl, HK.out⟩
  · have h1I : ((p : Int) == (la.length : Int)) = false := by simpa using fun e => h1 (by omega)
    by_cases h2 : p = lb.length
    · have hr := hE.out
      rw [if_neg (fun e => h1 (hsm.2 e).1), if_neg h1, if_pos (.inl h2)] at hr
      subst hr
      have h2B : Hd (decide ((p : Int) = (lb.length : Int)) = true) := ⟨by rw [h2]; simp⟩
      clear hsm hle h1 h2 hra hrb hE
      go_wp2_with (first | (go_at_call 50; refine hpre.out.mono ?_; rintro e w1 ⟨rfl, hk1⟩; have HK := Hd.mk hk1; clear hk1))
      have hS : Hd ((fun W : World => True) w1.drew) := ⟨trivial⟩
      refine rn_begin (fun W : World => True) (List.range 15) (by kernel_rfl) ?_
      refine rn_take (i := 0) (dst := some 23) (v := .int .i64 (p : Int)) rfl (by kernel_rfl) (fun _ _ _ h => h) rfl rfl (fun W hW => ex_move W _ _ rfl rfl) hS.out ?_; simp only [Act.put, List.setIfInBounds_toArray, List.set_cons_zero, List.set_cons_succ]
      refine rn_take (i := 1) (dst := some 24) (v := .slice B lb.length cB) rfl (by kernel_rfl) (fun _ _ _ h => h) rfl rfl (fun W hW => ex_move W _ _ rfl rfl) hS.out ?_; simp only [Act.put, List.setIfInBounds_toArray, List.set_cons_zero, List.set_cons_succ]
      refine rn_take (i := 2) (dst := some 25) (v := .int .i64 (lb.length : Int)) rfl (by kernel_rfl) (fun _ _ _ h => h) rfl rfl (fun W hW => ex_len W 23 _ rfl Try.underlying23 _ _ _ rfl) hS.out ?_; simp only [Act.put, List.setIfInBounds_toArray, List.set_cons_zero, List.set_cons_succ]
      refine rn_take (i := 3) (dst := some 26) (v := .bool true) rfl (by kernel_rfl) (fun _ _ _ h => h) rfl rfl (fun W hW => ex_eql W _ _ _ _ rfl .i64 _ _ rfl rfl _ h2B.out) hS.out ?_; simp only [Act.put, List.setIfInBounds_toArray, List.set_cons_zero, List.set_cons_succ]
      refine rn_take (i := 4) (dst := some 27) (v := .bool true) rfl (by kernel_rfl) (fun _ _ _ h => h) rfl rfl (fun W hW => ex_move W _ _ rfl rfl) hS.out ?_; simp only [Act.put, List.setIfInBounds_toArray, List.set_cons_zero, List.set_cons_succ]
      refine rn_pass (i := 5) (dst := some 28) rfl (by kernel_rfl) (fun _ _ _ h => h) rfl rfl hS.out ?_; simp only [Act.put, List.setIfInBounds_toArray, List.set_cons_zero, List.set_cons_succ]
      refine rn_pass (i := 6) (dst := some 29) rfl (by kernel_rfl) (fun _ _ _ h => h) rfl rfl hS.out ?_; simp only [Act.put, List.setIfInBounds_toArray, List.set_cons_zero, List.set_cons_succ]
      refine rn_pass (i := 7) (dst := some 30) rfl (by kernel_rfl) (fun _ _ _ h => h) rfl rfl hS.out ?_; simp only [Act.put, List.setIfInBounds_toArray, List.set_cons_zero, List.set_cons_succ]
      refine rn_pass (i := 8) (dst := some 31) rfl (by kernel_rfl) (fun _ _ _ h => h) rfl rfl hS.out ?_; simp only [Act.put, List.setIfInBounds_toArray, List.set_cons_zero, List.set_cons_succ]
      refine rn_pass (i := 9) (dst := some 32) rfl (by kernel_rfl) (fun _ _ _ h => h) rfl rfl hS.out ?_; simp only [Act.put, List.setIfInBounds_toArray, List.set_cons_zero, List.set_cons_succ]
      refine rn_pass (i := 10) (dst := some 33) rfl (by kernel_rfl) (fun _ _ _ h => h) rfl rfl hS.out ?_; simp only [Act.put, List.setIfInBounds_toArray, List.set_cons_zero, List.set_cons_succ]
      refine rn_pass (i := 11) (dst := some 34) rfl (by kernel_rfl) (fun _ _ _ h => h) rfl rfl hS.out ?_; simp only [Act.put, List.setIfInBounds_toArray, List.set_cons_zero, List.set_cons_succ]
      refine rn_pass (i := 12) (dst := some 35) rfl (by kernel_rfl) (fun _ _ _ h => h) rfl rfl hS.out ?_; simp only [Act.put, List.setIfInBounds_toArray, List.set_cons_zero, List.set_cons_succ]
      refine rn_pass (i := 13) (dst := some 36) rfl (by kernel_rfl) (fun _ _ _ h => h) rfl rfl hS.out ?_; simp only [Act.put, List.setIfInBounds_toArray, List.set_cons_zero, List.set_cons_succ]
      refine rn_take (i := 14) (dst := some 37) (v := .bool true) rfl (by kernel_rfl) (fun _ _ _ h => h) rfl rfl (fun W hW => ex_pick W _ _ _ rfl true _ rfl rfl) hS.out ?_; simp only [Act.put, List.setIfInBounds_toArray, List.set_cons_zero, List.set_cons_succ]
      refine rn_done (by kernel_rfl) ?_ _
      go_wp2_with fail
      go_ret
      exact ⟨rfl, HK.out.drew⟩
    · have h2B : Hd (decide ((p : Int) = (lb.length : Int)) = false) := ⟨by simpa using fun e => h2 (by omega)⟩
      have h1' : p < la.length := by omega
      have h2' : p < lb.length := by omega
      have hr := hE.out
      rw [if_neg (fun e => h1 (hsm.2 e).1), if_neg h1, getD_at _ _ _ h1', getD_at _ _ _ h2'] at hr
      obtain ⟨b1, o1, rfl, hc1⟩ := Bs.cell hra h1'
      obtain ⟨b2, o2, rfl, hc2⟩ := Bs.cell hrb h2'
      generalize la[p] = x at *
      generalize lb[p] = y at *
      rw [← Nat.mul_one p] at hc1 hc2
      have hbb1 : b1 < w.heap.size := World.block_lt_of_cell? w _ hc1
      have hbb2 : b2 < w.heap.size := World.block_lt_of_cell? w _ hc2
      have Hc := Hd.mk (And.intro hc1 hc2)
      have Hbb := Hd.mk (And.intro hbb1 hbb2)
      have h2N := Hd.mk h2
      have h1 := Hd.mk h1'
      have h2 := Hd.mk h2'
      clear hsm hle h1' h2' hra hrb hE hc1 hc2 hbb1 hbb2 Ha Hb
      by_cases hx : y < x
      · rw [if_pos (.inr hx)] at hr
        subst hr
        have h3B : Hd (decide (y < x) = true) := ⟨by simpa using hx⟩
        clear hx
        go_wp2_with (first | (go_at_call 50; refine hpre.out.mono ?_; rintro e w1 ⟨rfl, hk1⟩; have HK := Hd.mk hk1; clear hk1))
        have hS : Hd ((fun W : World => W.cell? ⟨b1, o1 + p * 1, none⟩ = some (.int .u8 x) ∧ W.cell? ⟨b2, o2 + p * 1, none⟩ = some (.int .u8 y)) w1.drew) := ⟨(World.cell?_of_block (show w1.drew.heap[b1]? = w.heap[b1]? from HK.out.block b1 Hbb.out.1 id)).trans Hc.out.1, (World.cell?_of_block (show w1.drew.heap[b2]? = w.heap[b2]? from HK.out.block b2 Hbb.out.2 id)).trans Hc.out.2⟩
        refine rn_begin (fun W : World => W.cell? ⟨b1, o1 + p * 1, none⟩ = some (.int .u8 x) ∧ W.cell? ⟨b2, o2 + p * 1, none⟩ = some (.int .u8 y)) (List.range 15) (by kernel_rfl) ?_
        refine rn_take (i := 0) (dst := some 23) (v := .int .i64 (p : Int)) rfl (by kernel_rfl) (fun _ _ _ h => h) rfl rfl (fun W hW => ex_move W _ _ rfl rfl) hS.out ?_; simp only [Act.put, List.setIfInBounds_toArray, List.set_cons_zero, List.set_cons_succ]
        refine rn_take (i := 1) (dst := some 24) (v := .slice (some ⟨b2, o2, none⟩) lb.length cB) rfl (by kernel_rfl) (fun _ _ _ h => h) rfl rfl (fun W hW => ex_move W _ _ rfl rfl) hS.out ?_; simp only [Act.put, List.setIfInBounds_toArray, List.set_cons_zero, List.set_cons_succ]
        refine rn_take (i := 2) (dst := some 25) (v := .int .i64 (lb.length : Int)) rfl (by kernel_rfl) (fun _ _ _ h => h) rfl rfl (fun W hW => ex_len W 23 _ rfl Try.underlying23 _ _ _ rfl) hS.out ?_; simp only [Act.put, List.setIfInBounds_toArray, List.set_cons_zero, List.set_cons_succ]
        refine rn_take (i := 3) (dst := some 26) (v := .bool false) rfl (by kernel_rfl) (fun _ _ _ h => h) rfl rfl (fun W hW => ex_eql W _ _ _ _ rfl .i64 _ _ rfl rfl _ h2B.out) hS.out ?_; simp only [Act.put, List.setIfInBounds_toArray, List.set_cons_zero, List.set_cons_succ]
        refine rn_take (i := 4) (dst := some 27) (v := .bool false) rfl (by kernel_rfl) (fun _ _ _ h => h) rfl rfl (fun W hW => ex_move W _ _ rfl rfl) hS.out ?_; simp only [Act.put, List.setIfInBounds_toArray, List.set_cons_zero, List.set_cons_succ]
        refine rn_take (i := 5) (dst := some 28) (v := .slice (some ⟨b1, o1, none⟩) la.length cA) rfl (by kernel_rfl) (fun _ _ _ h => h) rfl rfl (fun W hW => ex_move W _ _ rfl rfl) hS.out ?_; simp only [Act.put, List.setIfInBounds_toArray, List.set_cons_zero, List.set_cons_succ]
        refine rn_take (i := 6) (dst := some 29) (v := .int .i64 (p : Int)) rfl (by kernel_rfl) (fun _ _ _ h => h) rfl rfl (fun W hW => ex_move W _ _ rfl rfl) hS.out ?_; simp only [Act.put, List.setIfInBounds_toArray, List.set_cons_zero, List.set_cons_succ]
        refine rn_take (i := 7) (dst := some 30) (v := .pointer (some ⟨b1, o1 + p * 1, none⟩)) rfl (by kernel_rfl) (fun _ _ _ h => h) rfl rfl (fun W hW => ex_index W 23 5 _ _ rfl 1 p Try.underlying23 inf5s b1 o1 _ _ rfl .i64 rfl h1.out) hS.out ?_; simp only [Act.put, List.setIfInBounds_toArray, List.set_cons_zero, List.set_cons_succ]
        refine rn_take (i := 8) (dst := some 31) (v := .int .u8 x) rfl (by kernel_rfl) (fun _ _ _ h => h) rfl rfl (fun W hW => ex_load W 5 _ _ rfl ⟨b1, o1 + p * 1, none⟩ Try.underlying5 rfl rfl hW.1) hS.out ?_; simp only [Act.put, List.setIfInBounds_toArray, List.set_cons_zero, List.set_cons_succ]
        refine rn_take (i := 9) (dst := some 32) (v := .slice (some ⟨b2, o2, none⟩) lb.length cB) rfl (by kernel_rfl) (fun _ _ _ h => h) rfl rfl (fun W hW => ex_move W _ _ rfl rfl) hS.out ?_; simp only [Act.put, List.setIfInBounds_toArray, List.set_cons_zero, List.set_cons_succ]
        refine rn_take (i := 10) (dst := some 33) (v := .int .i64 (p : Int)) rfl (by kernel_rfl) (fun _ _ _ h => h) rfl rfl (fun W hW => ex_move W _ _ rfl rfl) hS.out ?_; simp only [Act.put, List.setIfInBounds_toArray, List.set_cons_zero, List.set_cons_succ]
        refine rn_take (i := 11) (dst := some 34) (v := .pointer (some ⟨b2, o2 + p * 1, none⟩)) rfl (by kernel_rfl) (fun _ _ _ h => h) rfl rfl (fun W hW => ex_index W 23 5 _ _ rfl 1 p Try.underlying23 inf5s b2 o2 _ _ rfl .i64 rfl h2.out) hS.out ?_; simp only [Act.put, List.setIfInBounds_toArray, List.set_cons_zero, List.set_cons_succ]
        refine rn_take (i := 12) (dst := some 35) (v := .int .u8 y) rfl (by kernel_rfl) (fun _ _ _ h => h) rfl rfl (fun W hW => ex_load W 5 _ _ rfl ⟨b2, o2 + p * 1, none⟩ Try.underlying5 rfl rfl hW.2) hS.out ?_; simp only [Act.put, List.setIfInBounds_toArray, List.set_cons_zero, List.set_cons_succ]
        refine rn_take (i := 13) (dst := some 36) (v := .bool true) rfl (by kernel_rfl) (fun _ _ _ h => h) rfl rfl (fun W hW => ex_gtr W _ _ _ _ rfl .u8 _ _ rfl rfl _ h3B.out) hS.out ?_; simp only [Act.put, List.setIfInBounds_toArray, List.set_cons_zero, List.set_cons_succ]
        refine rn_take (i := 14) (dst := some 37) (v := .bool true) rfl (by kernel_rfl) (fun _ _ _ h => h) rfl rfl (fun W hW => ex_pick W _ _ _ rfl false _ rfl rfl) hS.out ?_; simp only [Act.put, List.setIfInBounds_toArray, List.set_cons_zero, List.set_cons_succ]
        refine rn_done (by kernel_rfl) ?_ _
        go_wp2_with fail
        go_ret
        exact ⟨rfl, HK.out.drew⟩
      · rw [if_neg (fun h => h.elim h2N.out hx)] at hr
        subst hr
        have h3B : Hd (decide (y < x) = false) := ⟨by simpa using hx⟩
        clear hx
        go_wp2_with (first | (go_at_call 50; refine hpre.out.mono ?_; rintro e w1 ⟨rfl, hk1⟩; have HK := Hd.mk hk1; clear hk1))
        have hS : Hd ((fun W : World => W.cell? ⟨b1, o1 + p * 1, none⟩ = some (.int .u8 x) ∧ W.cell? ⟨b2, o2 + p * 1, none⟩ = some (.int .u8 y)) w1.drew) := ⟨(World.cell?_of_block (show w1.drew.heap[b1]? = w.heap[b1]? from HK.out.block b1 Hbb.out.1 id)).trans Hc.out.1, (World.cell?_of_block (show w1.drew.heap[b2]? = w.heap[b2]? from HK.out.block b2 Hbb.out.2 id)).trans Hc.out.2⟩
        refine rn_begin (fun W : World => W.cell? ⟨b1, o1 + p * 1, none⟩ = some (.int .u8 x) ∧ W.cell? ⟨b2, o2 + p * 1, none⟩ = some (.int .u8 y)) (List.range 15) (by kernel_rfl) ?_
        refine rn_take (i := 0) (dst := some 23) (v := .int .i64 (p : Int)) rfl (by kernel_rfl) (fun _ _ _ h => h) rfl rfl (fun W hW => ex_move W _ _ rfl rfl) hS.out ?_; simp only [Act.put, List.setIfInBounds_toArray, List.set_cons_zero, List.set_cons_succ]
        refine rn_take (i := 1) (dst := some 24) (v := .slice (some ⟨b2, o2, none⟩) lb.length cB) rfl (by kernel_rfl) (fun _ _ _ h => h) rfl rfl (fun W hW => ex_move W _ _ rfl rfl) hS.out ?_; simp only [Act.put, List.setIfInBounds_toArray, List.set_cons_zero, List.set_cons_succ]
        refine rn_take (i := 2) (dst := some 25) (v := .int .i64 (lb.length : Int)) rfl (by kernel_rfl) (fun _ _ _ h => h) rfl rfl (fun W hW => ex_len W 23 _ rfl Try.underlying23 _ _ _ rfl) hS.out ?_; simp only [Act.put, List.setIfInBounds_toArray, List.set_cons_zero, List.set_cons_succ]
        refine rn_take (i := 3) (dst := some 26) (v := .bool false) rfl (by kernel_rfl) (fun _ _ _ h => h) rfl rfl (fun W hW => ex_eql W _ _ _ _ rfl .i64 _ _ rfl rfl _ h2B.out) hS.out ?_; simp only [Act.put, List.setIfInBounds_toArray, List.set_cons_zero, List.set_cons_succ]
        refine rn_take (i := 4) (dst := some 27) (v := .bool false) rfl (by kernel_rfl) (fun _ _ _ h => h) rfl rfl (fun W hW => ex_move W _ _ rfl rfl) hS.out ?_; simp only [Act.put, List.setIfInBounds_toArray, List.set_cons_zero, List.set_cons_succ]
        refine rn_take (i := 5) (dst := some 28) (v := .slice (some ⟨b1, o1, none⟩) la.length cA) rfl (by kernel_rfl) (fun _ _ _ h => h) rfl rfl (fun W hW => ex_move W _ _ rfl rfl) hS.out ?_; simp only [Act.put, List.setIfInBounds_toArray, List.set_cons_zero, List.set_cons_succ]
        refine rn_take (i := 6) (dst := some 29) (v := .int .i64 (p : Int)) rfl (by kernel_rfl) (fun _ _ _ h => h) rfl rfl (fun W hW => ex_move W _ _ rfl rfl) hS.out ?_; simp only [Act.put, List.setIfInBounds_toArray, List.set_cons_zero, List.set_cons_succ]
        refine rn_take (i := 7) (dst := some 30) (v := .pointer (some ⟨b1, o1 + p * 1, none⟩)) rfl (by kernel_rfl) (fun _ _ _ h => h) rfl rfl (fun W hW => ex_index W 23 5 _ _ rfl 1 p Try.underlying23 inf5s b1 o1 _ _ rfl .i64 rfl h1.out) hS.out ?_; simp only [Act.put, List.setIfInBounds_toArray, List.set_cons_zero, List.set_cons_succ]
        refine rn_take (i := 8) (dst := some 31) (v := .int .u8 x) rfl (by kernel_rfl) (fun _ _ _ h => h) rfl rfl (fun W hW => ex_load W 5 _ _ rfl ⟨b1, o1 + p * 1, none⟩ Try.underlying5 rfl rfl hW.1) hS.out ?_; simp only [Act.put, List.setIfInBounds_toArray, List.set_cons_zero, List.set_cons_succ]
        refine rn_take (i := 9) (dst := some 32) (v := .slice (some ⟨b2, o2, none⟩) lb.length cB) rfl (by kernel_rfl) (fun _ _ _ h => h) rfl rfl (fun W hW => ex_move W _ _ rfl rfl) hS.out ?_; simp only [Act.put, List.setIfInBounds_toArray, List.set_cons_zero, List.set_cons_succ]
        refine rn_take (i := 10) (dst := some 33) (v := .int .i64 (p : Int)) rfl (by kernel_rfl) (fun _ _ _ h => h) rfl rfl (fun W hW => ex_move W _ _ rfl rfl) hS.out ?_; simp only [Act.put, List.setIfInBounds_toArray, List.set_cons_zero, List.set_cons_succ]
        refine rn_take (i := 11) (dst := some 34) (v := .pointer (some ⟨b2, o2 + p * 1, none⟩)) rfl (by kernel_rfl) (fun _ _ _ h => h) rfl rfl (fun W hW => ex_index W 23 5 _ _ rfl 1 p Try.underlying23 inf5s b2 o2 _ _ rfl .i64 rfl h2.out) hS.out ?_; simp only [Act.put, List.setIfInBounds_toArray, List.set_cons_zero, List.set_cons_succ]
        refine rn_take (i := 12) (dst := some 35) (v := .int .u8 y) rfl (by kernel_rfl) (fun _ _ _ h => h) rfl rfl (fun W hW => ex_load W 5 _ _ rfl ⟨b2, o2 + p * 1, none⟩ Try.underlying5 rfl rfl hW.2) hS.out ?_; simp only [Act.put, List.setIfInBounds_toArray, List.set_cons_zero, List.set_cons_succ]
        refine rn_take (i := 13) (dst := some 36) (v := .bool false) rfl (by kernel_rfl) (fun _ _ _ h => h) rfl rfl (fun W hW => ex_gtr W _ _ _ _ rfl .u8 _ _ rfl rfl _ h3B.out) hS.out ?_; simp only [Act.put, List.setIfInBounds_toArray, List.set_cons_zero, List.set_cons_succ]
        refine rn_take (i := 14) (dst := some 37) (v := .bool false) rfl (by kernel_rfl) (fun _ _ _ h => h) rfl rfl (fun W hW => ex_pick W _ _ _ rfl false _ rfl rfl) hS.out ?_; simp only [Act.put, List.setIfInBounds_toArray, List.set_cons_zero, List.set_cons_succ]
        refine rn_done (by kernel_rfl) ?_ _
        go_wp2_with fail
        go_ret
        exact ⟨rfl, HK.out.drew⟩

set_option maxHeartbeats 400000 in
theorem same_at {w : World} {va vb : Value} {la lb : List Int} (ha : Bs w va la) (hb : Bs w vb lb) (hl : la.length ≤ 1000000000) : Calls Try.prog 19 #[va, vb] w fun e w' => e = .returned (.bool (decide (la = lb))) ∧ Kp (fun _ => False) w w' := by
  have hc := Hd.mk (compare_at ha hb hl)
  have hz : (cmpM la lb == 0) = decide (la = lb) := by rw [Bool.eq_iff_iff]; simp [cmpM_zero]
  generalize cmpM la lb = c at *
  generalize decide (la = lb) = r at *
  clear ha hb hl
  go_enter Try.func19, Try.ntmps19
  go_wp2_with (first | (go_at_call 38; refine hc.out.mono ?_; rintro e w1 ⟨rfl, hk1⟩; have HK := Hd.mk hk1; clear hk1))
  go_ret
  exact ⟨rfl, HK.out⟩
end Go.Proofs.Ytkcechpaeilaeaa
