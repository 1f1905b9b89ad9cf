/- The document's Prefix, Compare, Same where both rows of bytes are the same. -/
import Derived.Test.YtkcechpaeilaeaaGreatDoorOb
namespace Go.Proofs.YtkcechpaeilaeaaGreatDoor
open Go.RowKit
set_option linter.unusedVariables false
set_option linter.unusedSimpArgs false
set_option maxRecDepth 20000
theorem bs_cell {w : World} {A : Option Addr} {l : List Int} (h : l = [] ∨ ∃ b o, A = some ⟨b, o, none⟩ ∧ w.rangeAt b o (u8s l)) {k : Nat} (hk : k < l.length) : ∃ b o, A = some ⟨b, o, none⟩ ∧ w.cell? ⟨b, o + k, none⟩ = some (.int .u8 l[k]) := by
  rcases h with rfl | ⟨b, o, rfl, hr⟩
  · simp at hk
  · exact ⟨b, o, rfl, hr _ _ (by rw [u8s_get, List.getElem?_eq_getElem hk]; rfl)⟩
set_option maxHeartbeats 1000000 in
theorem prefix_self {w : World} {va vb : Value} {l : List Int} (ha : Bs w va l) (hb : Bs w vb l) (hl : l.length ≤ 1000000000) : Calls Tryz.prog 86 #[va, vb] w fun e w' => e = .returned (.int .i64 (l.length : Int)) ∧ Kp (fun _ => False) w w' := by
  obtain ⟨A, cA, rfl, hcA, hra⟩ := ha
  obtain ⟨B, cB, rfl, hcB, hrb⟩ := hb
  have Ha := Hd.mk hra
  have Hb := Hd.mk hrb
  obtain ⟨n, hn⟩ : ∃ n, l.length = n := ⟨_, rfl⟩
  rw [hn] at hl ⊢
  have hn := Hd.mk hn
  clear hra hrb hcA hcB
  go_enter Tryz.func86, Tryz.ntmps86
  go_wp2_with fail
  go_loopw [5] (fun v5 wr => ∃ k : Nat, v5 = .int .i64 k ∧ k ≤ n ∧ Hd (Kp (fun _ => False) w wr)) (fun v5 _ => n - (intOf v5).toNat)
  case atStart => exact ⟨0, rfl, Nat.zero_le _, ⟨Kp.refl _ _⟩⟩
  case round =>
    obtain ⟨k, rfl, hk, HK⟩ := hrel
    have hkb : (k : Int) + 1 ≤ 1000000001 := by omega
    by_cases h1 : k < n
    · have h1B : Hd (decide ((k : Int) < (n : Int)) = true) := ⟨by simp; omega⟩
      have hkl : k < l.length := by rw [hn.out]; exact h1
      obtain ⟨b1, o1, rfl, hc1⟩ := bs_cell Ha.out hkl
      obtain ⟨b2, o2, rfl, hc2⟩ := bs_cell Hb.out hkl
      generalize l[k] = x at *
      have hlt : ∀ (b o : Nat), w.cell? ⟨b, o + k, none⟩ = some (.int .u8 x) → wr.drew.cell? ⟨b, o + k, none⟩ = some (.int .u8 x) := fun b o h => HK.out.see h id
      have hS : Hd ((fun W : World => W.cell? ⟨b1, o1 + k, none⟩ = some (.int .u8 x) ∧ W.cell? ⟨b2, o2 + k, none⟩ = some (.int .u8 x)) wr.drew) := ⟨⟨hlt _ _ hc1, hlt _ _ hc2⟩⟩
      clear hlt hc1 hc2
      go_wp2_with fail
      refine rn_begin (fun W : World => W.cell? ⟨b1, o1 + k, none⟩ = some (.int .u8 x) ∧ W.cell? ⟨b2, o2 + k, none⟩ = some (.int .u8 x)) (List.range 21) (by kernel_rfl) ?_
      refine rn_take (i := 0) (dst := some 6) (v := .int .i64 ((k : Nat) : Int)) rfl (by kernel_rfl) (fun _ _ _ h => h) rfl rfl (fun W hW => ex_move W _ _ rfl rfl) hS.out ?_
      simp only [Act.put, List.setIfInBounds_toArray, List.set_cons_zero, List.set_cons_succ]
      refine rn_take (i := 1) (dst := some 7) (v := .slice (some ⟨b1, o1, none⟩) n cA) rfl (by kernel_rfl) (fun _ _ _ h => h) rfl rfl (fun W hW => ex_move W _ _ rfl rfl) hS.out ?_
      simp only [Act.put, List.setIfInBounds_toArray, List.set_cons_zero, List.set_cons_succ]
      refine rn_take (i := 2) (dst := some 8) (v := .int .i64 ((n : Nat) : Int)) rfl (by kernel_rfl) (fun _ _ _ h => h) rfl rfl (fun W hW => ex_len W 22 _ rfl Tryz.underlying22 _ n cA rfl) hS.out ?_
      simp only [Act.put, List.setIfInBounds_toArray, List.set_cons_zero, List.set_cons_succ]
      refine rn_take (i := 3) (dst := some 9) (v := .bool true) rfl (by kernel_rfl) (fun _ _ _ h => h) rfl rfl (fun W hW => ex_lss W 3 _ _ _ rfl .i64 ((k : Nat) : Int) ((n : Nat) : Int) rfl rfl true (h1B.out)) hS.out ?_
      simp only [Act.put, List.setIfInBounds_toArray, List.set_cons_zero, List.set_cons_succ]
      refine rn_take (i := 4) (dst := some 10) (v := .bool true) rfl (by kernel_rfl) (fun _ _ _ h => h) rfl rfl (fun W hW => ex_move W _ _ rfl rfl) hS.out ?_
      simp only [Act.put, List.setIfInBounds_toArray, List.set_cons_zero, List.set_cons_succ]
      refine rn_take (i := 5) (dst := some 11) (v := .int .i64 ((k : Nat) : Int)) rfl (by kernel_rfl) (fun _ _ _ h => h) rfl rfl (fun W hW => ex_move W _ _ rfl rfl) hS.out ?_
      simp only [Act.put, List.setIfInBounds_toArray, List.set_cons_zero, List.set_cons_succ]
      refine rn_take (i := 6) (dst := some 12) (v := .slice (some ⟨b2, o2, none⟩) n cB) rfl (by kernel_rfl) (fun _ _ _ h => h) rfl rfl (fun W hW => ex_move W _ _ rfl rfl) hS.out ?_
      simp only [Act.put, List.setIfInBounds_toArray, List.set_cons_zero, List.set_cons_succ]
      refine rn_take (i := 7) (dst := some 13) (v := .int .i64 ((n : Nat) : Int)) rfl (by kernel_rfl) (fun _ _ _ h => h) rfl rfl (fun W hW => ex_len W 22 _ rfl Tryz.underlying22 _ n cB rfl) hS.out ?_
      simp only [Act.put, List.setIfInBounds_toArray, List.set_cons_zero, List.set_cons_succ]
      refine rn_take (i := 8) (dst := some 14) (v := .bool true) rfl (by kernel_rfl) (fun _ _ _ h => h) rfl rfl (fun W hW => ex_lss W 3 _ _ _ rfl .i64 ((k : Nat) : Int) ((n : Nat) : Int) rfl rfl true (h1B.out)) hS.out ?_
      simp only [Act.put, List.setIfInBounds_toArray, List.set_cons_zero, List.set_cons_succ]
      refine rn_take (i := 9) (dst := some 15) (v := .bool true) rfl (by kernel_rfl) (fun _ _ _ h => h) rfl rfl (fun W hW => ex_pick W _ _ _ rfl true _ rfl rfl) hS.out ?_
      simp only [Act.put, List.setIfInBounds_toArray, List.set_cons_zero, List.set_cons_succ]
      refine rn_take (i := 10) (dst := some 16) (v := .bool true) rfl (by kernel_rfl) (fun _ _ _ h => h) rfl rfl (fun W hW => ex_move W _ _ rfl rfl) hS.out ?_
      simp only [Act.put, List.setIfInBounds_toArray, List.set_cons_zero, List.set_cons_succ]
      refine rn_take (i := 11) (dst := some 17) (v := .slice (some ⟨b1, o1, none⟩) n cA) rfl (by kernel_rfl) (fun _ _ _ h => h) rfl rfl (fun W hW => ex_move W _ _ rfl rfl) hS.out ?_
      simp only [Act.put, List.setIfInBounds_toArray, List.set_cons_zero, List.set_cons_succ]
      refine rn_take (i := 12) (dst := some 18) (v := .int .i64 ((k : Nat) : Int)) rfl (by kernel_rfl) (fun _ _ _ h => h) rfl rfl (fun W hW => ex_move W _ _ rfl rfl) hS.out ?_
      simp only [Act.put, List.setIfInBounds_toArray, List.set_cons_zero, List.set_cons_succ]
      refine rn_take (i := 13) (dst := some 19) (v := .pointer (some ⟨b1, o1 + k, none⟩)) rfl (by kernel_rfl) (fun _ _ _ h => h) rfl rfl (fun W hW => er_index W 22 5 _ _ rfl 1 k Tryz.underlying22 (by kernel_rfl) b1 o1 _ _ (o1 + k) (by first | rfl | omega) rfl .i64 rfl (by omega)) hS.out ?_
      simp only [Act.put, List.setIfInBounds_toArray, List.set_cons_zero, List.set_cons_succ]
      refine rn_take (i := 14) (dst := some 20) (v := .int .u8 x) rfl (by kernel_rfl) (fun _ _ _ h => h) rfl rfl (fun W hW => ex_load W 5 _ _ rfl ⟨b1, o1 + k, none⟩ Tryz.underlying5 rfl rfl (hW.1)) hS.out ?_
      simp only [Act.put, List.setIfInBounds_toArray, List.set_cons_zero, List.set_cons_succ]
      refine rn_take (i := 15) (dst := some 21) (v := .slice (some ⟨b2, o2, none⟩) n cB) rfl (by kernel_rfl) (fun _ _ _ h => h) rfl rfl (fun W hW => ex_move W _ _ rfl rfl) hS.out ?_
      simp only [Act.put, List.setIfInBounds_toArray, List.set_cons_zero, List.set_cons_succ]
      refine rn_take (i := 16) (dst := some 22) (v := .int .i64 ((k : Nat) : Int)) rfl (by kernel_rfl) (fun _ _ _ h => h) rfl rfl (fun W hW => ex_move W _ _ rfl rfl) hS.out ?_
      simp only [Act.put, List.setIfInBounds_toArray, List.set_cons_zero, List.set_cons_succ]
      refine rn_take (i := 17) (dst := some 23) (v := .pointer (some ⟨b2, o2 + k, none⟩)) rfl (by kernel_rfl) (fun _ _ _ h => h) rfl rfl (fun W hW => er_index W 22 5 _ _ rfl 1 k Tryz.underlying22 (by kernel_rfl) b2 o2 _ _ (o2 + k) (by first | rfl | omega) rfl .i64 rfl (by omega)) hS.out ?_
      simp only [Act.put, List.setIfInBounds_toArray, List.set_cons_zero, List.set_cons_succ]
      refine rn_take (i := 18) (dst := some 24) (v := .int .u8 x) rfl (by kernel_rfl) (fun _ _ _ h => h) rfl rfl (fun W hW => ex_load W 5 _ _ rfl ⟨b2, o2 + k, none⟩ Tryz.underlying5 rfl rfl (hW.2)) hS.out ?_
      simp only [Act.put, List.setIfInBounds_toArray, List.set_cons_zero, List.set_cons_succ]
      refine rn_take (i := 19) (dst := some 25) (v := .bool true) rfl (by kernel_rfl) (fun _ _ _ h => h) rfl rfl (fun W hW => ex_eql W 5 _ _ _ rfl .u8 x x rfl rfl true (by simp)) hS.out ?_
      simp only [Act.put, List.setIfInBounds_toArray, List.set_cons_zero, List.set_cons_succ]
      refine rn_take (i := 20) (dst := some 26) (v := .bool true) rfl (by kernel_rfl) (fun _ _ _ h => h) rfl rfl (fun W hW => ex_pick W _ _ _ rfl true _ rfl rfl) hS.out ?_
      simp only [Act.put, List.setIfInBounds_toArray, List.set_cons_zero, List.set_cons_succ]
      refine rn_done (by kernel_rfl) ?_ _
      clear hS
      go_wp2_with fail
      exact ⟨⟨k + 1, by go_num, by omega, ⟨HK.out.drew⟩⟩, by simp [intOf]; omega⟩
    · have hkn : k = n := by omega
      subst hkn
      have h1B : Hd (decide ((k : Int) < (k : Int)) = false) := ⟨by simp⟩
      have hS : Hd ((fun W : World => True) wr.drew) := ⟨trivial⟩
      go_wp2_with fail
      refine rn_begin (fun W : World => True) (List.range 21) (by kernel_rfl) ?_
      refine rn_take (i := 0) (dst := some 6) (v := .int .i64 ((k : Nat) : Int)) rfl (by kernel_rfl) (fun _ _ _ h => h) rfl rfl (fun W hW => ex_move W _ _ rfl rfl) hS.out ?_
      simp only [Act.put, List.setIfInBounds_toArray, List.set_cons_zero, List.set_cons_succ]
      refine rn_take (i := 1) (dst := some 7) (v := .slice A k cA) rfl (by kernel_rfl) (fun _ _ _ h => h) rfl rfl (fun W hW => ex_move W _ _ rfl rfl) hS.out ?_
      simp only [Act.put, List.setIfInBounds_toArray, List.set_cons_zero, List.set_cons_succ]
      refine rn_take (i := 2) (dst := some 8) (v := .int .i64 ((k : Nat) : Int)) rfl (by kernel_rfl) (fun _ _ _ h => h) rfl rfl (fun W hW => ex_len W 22 _ rfl Tryz.underlying22 _ k cA rfl) hS.out ?_
      simp only [Act.put, List.setIfInBounds_toArray, List.set_cons_zero, List.set_cons_succ]
      refine rn_take (i := 3) (dst := some 9) (v := .bool false) rfl (by kernel_rfl) (fun _ _ _ h => h) rfl rfl (fun W hW => ex_lss W 3 _ _ _ rfl .i64 ((k : Nat) : Int) ((k : Nat) : Int) rfl rfl false (h1B.out)) hS.out ?_
      simp only [Act.put, List.setIfInBounds_toArray, List.set_cons_zero, List.set_cons_succ]
      refine rn_take (i := 4) (dst := some 10) (v := .bool false) rfl (by kernel_rfl) (fun _ _ _ h => h) rfl rfl (fun W hW => ex_move W _ _ rfl rfl) hS.out ?_
      simp only [Act.put, List.setIfInBounds_toArray, List.set_cons_zero, List.set_cons_succ]
      refine rn_pass (i := 5) (dst := some 11) rfl (by kernel_rfl) (fun _ _ _ h => h) rfl rfl hS.out ?_
      simp only [Act.put, List.setIfInBounds_toArray, List.set_cons_zero, List.set_cons_succ]
      refine rn_pass (i := 6) (dst := some 12) rfl (by kernel_rfl) (fun _ _ _ h => h) rfl rfl hS.out ?_
      simp only [Act.put, List.setIfInBounds_toArray, List.set_cons_zero, List.set_cons_succ]
      refine rn_pass (i := 7) (dst := some 13) rfl (by kernel_rfl) (fun _ _ _ h => h) rfl rfl hS.out ?_
      simp only [Act.put, List.setIfInBounds_toArray, List.set_cons_zero, List.set_cons_succ]
      refine rn_pass (i := 8) (dst := some 14) rfl (by kernel_rfl) (fun _ _ _ h => h) rfl rfl hS.out ?_
      simp only [Act.put, List.setIfInBounds_toArray, List.set_cons_zero, List.set_cons_succ]
      refine rn_take (i := 9) (dst := some 15) (v := .bool false) rfl (by kernel_rfl) (fun _ _ _ h => h) rfl rfl (fun W hW => ex_pick W _ _ _ rfl false _ rfl rfl) hS.out ?_
      simp only [Act.put, List.setIfInBounds_toArray, List.set_cons_zero, List.set_cons_succ]
      refine rn_take (i := 10) (dst := some 16) (v := .bool false) rfl (by kernel_rfl) (fun _ _ _ h => h) rfl rfl (fun W hW => ex_move W _ _ rfl rfl) hS.out ?_
      simp only [Act.put, List.setIfInBounds_toArray, List.set_cons_zero, List.set_cons_succ]
      refine rn_pass (i := 11) (dst := some 17) rfl (by kernel_rfl) (fun _ _ _ h => h) rfl rfl hS.out ?_
      simp only [Act.put, List.setIfInBounds_toArray, List.set_cons_zero, List.set_cons_succ]
      refine rn_pass (i := 12) (dst := some 18) rfl (by kernel_rfl) (fun _ _ _ h => h) rfl rfl hS.out ?_
      simp only [Act.put, List.setIfInBounds_toArray, List.set_cons_zero, List.set_cons_succ]
      refine rn_pass (i := 13) (dst := some 19) rfl (by kernel_rfl) (fun _ _ _ h => h) rfl rfl hS.out ?_
      simp only [Act.put, List.setIfInBounds_toArray, List.set_cons_zero, List.set_cons_succ]
      refine rn_pass (i := 14) (dst := some 20) rfl (by kernel_rfl) (fun _ _ _ h => h) rfl rfl hS.out ?_
      simp only [Act.put, List.setIfInBounds_toArray, List.set_cons_zero, List.set_cons_succ]
      refine rn_pass (i := 15) (dst := some 21) rfl (by kernel_rfl) (fun _ _ _ h => h) rfl rfl hS.out ?_
      simp only [Act.put, List.setIfInBounds_toArray, List.set_cons_zero, List.set_cons_succ]
      refine rn_pass (i := 16) (dst := some 22) rfl (by kernel_rfl) (fun _ _ _ h => h) rfl rfl hS.out ?_
      simp only [Act.put, List.setIfInBounds_toArray, List.set_cons_zero, List.set_cons_succ]
      refine rn_pass (i := 17) (dst := some 23) rfl (by kernel_rfl) (fun _ _ _ h => h) rfl rfl hS.out ?_
      simp only [Act.put, List.setIfInBounds_toArray, List.set_cons_zero, List.set_cons_succ]
      refine rn_pass (i := 18) (dst := some 24) rfl (by kernel_rfl) (fun _ _ _ h => h) rfl rfl hS.out ?_
      simp only [Act.put, List.setIfInBounds_toArray, List.set_cons_zero, List.set_cons_succ]
      refine rn_pass (i := 19) (dst := some 25) rfl (by kernel_rfl) (fun _ _ _ h => h) rfl rfl hS.out ?_
      simp only [Act.put, List.setIfInBounds_toArray, List.set_cons_zero, List.set_cons_succ]
      refine rn_take (i := 20) (dst := some 26) (v := .bool false) rfl (by kernel_rfl) (fun _ _ _ h => h) rfl rfl (fun W hW => ex_pick W _ _ _ rfl false _ rfl rfl) hS.out ?_
      simp only [Act.put, List.setIfInBounds_toArray, List.set_cons_zero, List.set_cons_succ]
      refine rn_done (by kernel_rfl) ?_ _
      clear hS
      go_wp2_with fail
      go_ret
      exact ⟨rfl, HK.out.drew⟩
theorem compare_self {w : World} {va vb : Value} {l : List Int} (ha : Bs w va l) (hb : Bs w vb l) (hl : l.length ≤ 1000000000) : Calls Tryz.prog 62 #[va, vb] w fun e w' => e = .returned (.int .i64 0) ∧ Kp (fun _ => False) w w' := by
  have hpre := Hd.mk (prefix_self ha hb hl)
  obtain ⟨A, cA, rfl, hcA, hra⟩ := ha
  obtain ⟨B, cB, rfl, hcB, hrb⟩ := hb
  generalize l.length = p at *
  clear hcA hcB hl hra hrb
  go_enter Tryz.func62, Tryz.ntmps62
  have h1I : ((p : Int) == (p : Int)) = true := by simp
  go_wp2_with (first | (go_at_call 86; refine hpre.out.mono ?_; rintro e w1 ⟨rfl, hk1⟩; have HK := Hd.mk hk1; clear hk1))
  go_ret
  exact ⟨rfl, HK.out⟩
theorem bsame_self {w : World} {va vb : Value} {l : List Int} (ha : Bs w va l) (hb : Bs w vb l) (hl : l.length ≤ 1000000000) : Calls Tryz.prog 19 #[va, vb] w fun e w' => e = .returned (.bool true) ∧ Kp (fun _ => False) w w' := by
  have hc := Hd.mk (compare_self ha hb hl)
  clear ha hb hl
  go_enter Tryz.func19, Tryz.ntmps19
  go_wp2_with (first | (go_at_call 62; refine hc.out.mono ?_; rintro e w1 ⟨rfl, hk1⟩; have HK := Hd.mk hk1; clear hk1))
  go_ret
  exact ⟨rfl, HK.out⟩
end Go.Proofs.YtkcechpaeilaeaaGreatDoor
