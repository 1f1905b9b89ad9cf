/- The document's Prefix, Compare, Same. -/
import Derived.Test.YtkcechpaeilaeaaEy
import Derived.Test.YtkcechpaeilaeaaD3
namespace Go.Proofs.Ytkcechpaeilaeaa
open Go.RowKit
set_option linter.unusedVariables false
set_option linter.unusedSimpArgs false

/-- How many two begin with that are the same. -/
def pre : List Int → List Int → Nat
  | x :: a, y :: b => if x = y then pre a b + 1 else 0
  | _, _ => 0
theorem pre_step : ∀ (a b : List Int) (k : Nat), k ≤ pre a b → (h1 : k < a.length) → (h2 : k < b.length) → (k < pre a b ↔ a[k] = b[k])
  | x :: a, y :: b, 0, _, _, _ => by
    unfold pre
    by_cases h : x = y
    · rw [if_pos h]; simp [h]
    · rw [if_neg h]; simp [h]
  | x :: a, y :: b, k + 1, hk, h1, h2 => by
    unfold pre at hk ⊢
    by_cases h : x = y
    · rw [if_pos h] at hk ⊢
      have := pre_step a b k (by omega) (by simpa using h1) (by simpa using h2)
      simp only [List.getElem_cons_succ]
      rw [← this]
      omega
    · rw [if_neg h] at hk; omega
theorem pre_le : ∀ (a b : List Int), pre a b ≤ a.length ∧ pre a b ≤ b.length
  | x :: a, y :: b => by
    unfold pre
    have := pre_le a b
    split <;> simp <;> omega
  | [], _ => by simp [pre]
  | _ :: _, [] => by simp [pre]
theorem pre_same : ∀ (a b : List Int), (pre a b = a.length ∧ pre a b = b.length) ↔ a = b
  | x :: a, y :: b => by
    unfold pre
    have := pre_same a b
    by_cases h : x = y
    · rw [if_pos h]; simp only [List.length_cons, Nat.add_right_cancel_iff, this, h, List.cons.injEq, true_and]
    · rw [if_neg h]; simp [h]
  | [], [] => by simp [pre]
  | [], _ :: _ => by simp [pre]
  | _ :: _, [] => by simp [pre]
theorem Bs.cell {w : World} {A : Option Addr} {l : List Int} (h : l = [] ∨ ∃ b o, A = some ⟨b, o, none⟩ ∧ w.rangeAt b o (u8s l)) {k : Nat} (hk : k < l.length) : ∃ b o, A = some ⟨b, o, none⟩ ∧ w.cell? ⟨b, o + k, none⟩ = some (.int .u8 l[k]) := by
  rcases h with rfl | ⟨b, o, rfl, hr⟩
  · simp at hk
  · exact ⟨b, o, rfl, hr _ _ (by rw [u8s_get, List.getElem?_eq_getElem hk]; rfl)⟩

theorem inf5s : (Try.prog.info? 5).map (·.size) = some 1 := by kernel_rfl
set_option maxHeartbeats 1000000 in
theorem prefix_at {w : World} {va vb : Value} {la lb : List Int} (ha : Bs w va la) (hb : Bs w vb lb) (hl : la.length ≤ 1000000000) : Calls Try.prog 50 #[va, vb] w fun e w' => e = .returned (.int .i64 (pre la lb : Nat)) ∧ Kp (fun _ => False) w w' := by
  have Ha := Hd.mk ha
  have Hb := Hd.mk hb
  obtain ⟨A, cA, rfl, hcA, hra⟩ := ha
  obtain ⟨B, cB, rfl, hcB, hrb⟩ := hb
  have hl : (la.length : Int) ≤ 1000000000 := by omega
  clear hra hrb hcA hcB
  go_enter Try.func50, Try.ntmps50
  go_wp2_with fail
  go_loopw [5] (fun v5 wr => ∃ k : Nat, v5 = .int .i64 k ∧ k ≤ pre la lb ∧ Hd (Kp (fun _ => False) w wr)) (fun v5 _ => pre la lb - (intOf v5).toNat)
  case atStart => exact ⟨0, rfl, Nat.zero_le _, ⟨Kp.refl _ _⟩⟩
  case round =>
    obtain ⟨k, rfl, hk, HK⟩ := hrel
    have hle := pre_le la lb
    have hst := pre_step la lb k hk
    obtain ⟨A', cA', hA, hcA, hra⟩ := Ha.out.keep (w' := wr) (fun b hb _ => HK.out.block b hb id)
    obtain ⟨B', cB', hB, hcB, hrb⟩ := Hb.out.keep (w' := wr) (fun b hb _ => HK.out.block b hb id)
    injection hA with hA1 hA2 hA3
    injection hB with hB1 hB2 hB3
    subst hA1 hA3 hB1 hB3
    clear hA2 hB2 hcA hcB
    have hkb : (k : Int) + 1 ≤ 1000000001 := by omega
    by_cases h1 : k < la.length
    · have h1B : Hd (decide ((k : Int) < (la.length : Int)) = true) := ⟨by simp; omega⟩
      by_cases h2 : k < lb.length
      · have h2B : Hd (decide ((k : Int) < (lb.length : Int)) = true) := ⟨by simp; omega⟩
        obtain ⟨b1, o1, rfl, hc1⟩ := Bs.cell hra h1
        obtain ⟨b2, o2, rfl, hc2⟩ := Bs.cell hrb h2
        have hst := hst h1 h2
        clear hra hrb
        generalize la[k] = x at *
        generalize lb[k] = y at *
        rw [← Nat.mul_one k] at hc1 hc2
        by_cases hx : x = y
        · have hlt := Hd.mk (hst.2 hx)
          have h3B : Hd (decide (x = y) = true) := ⟨by simpa using hx⟩
          clear hst hle hk hx
          have hS : Hd ((fun W : World => W.cell? ⟨b1, o1 + k * 1, none⟩ = some (.int .u8 x) ∧ W.cell? ⟨b2, o2 + k * 1, none⟩ = some (.int .u8 y)) wr.drew) := ⟨⟨hc1, hc2⟩⟩
          go_wp2_with fail
          refine rn_begin (fun W : World => W.cell? ⟨b1, o1 + k * 1, none⟩ = some (.int .u8 x) ∧ W.cell? ⟨b2, o2 + k * 1, none⟩ = some (.int .u8 y)) (List.range 21) (by kernel_rfl) ?_
          refine rn_take (i := 0) (dst := some 6) (v := .int .i64 (k : Int)) rfl (by kernel_rfl) (fun _ _ _ h => h) rfl rfl (fun W hW => ex_move W _ _ rfl rfl) hS.out ?_; simp only [Act.put, List.setIfInBounds_toArray, List.set_cons_zero, List.set_cons_succ]
          refine rn_take (i := 1) (dst := some 7) (v := .slice (some ⟨b1, o1, none⟩) la.length cA) rfl (by kernel_rfl) (fun _ _ _ h => h) rfl rfl (fun W hW => ex_move W _ _ rfl rfl) hS.out ?_; simp only [Act.put, List.setIfInBounds_toArray, List.set_cons_zero, List.set_cons_succ]
          refine rn_take (i := 2) (dst := some 8) (v := .int .i64 (la.length : Int)) rfl (by kernel_rfl) (fun _ _ _ h => h) rfl rfl (fun W hW => ex_len W 23 _ rfl Try.underlying23 _ _ _ rfl) hS.out ?_; simp only [Act.put, List.setIfInBounds_toArray, List.set_cons_zero, List.set_cons_succ]
          refine rn_take (i := 3) (dst := some 9) (v := .bool true) rfl (by kernel_rfl) (fun _ _ _ h => h) rfl rfl (fun W hW => ex_lss W _ _ _ _ rfl .i64 _ _ rfl rfl _ h1B.out) hS.out ?_; simp only [Act.put, List.setIfInBounds_toArray, List.set_cons_zero, List.set_cons_succ]
          refine rn_take (i := 4) (dst := some 10) (v := .bool true) rfl (by kernel_rfl) (fun _ _ _ h => h) rfl rfl (fun W hW => ex_move W _ _ rfl rfl) hS.out ?_; simp only [Act.put, List.setIfInBounds_toArray, List.set_cons_zero, List.set_cons_succ]
          refine rn_take (i := 5) (dst := some 11) (v := .int .i64 (k : Int)) rfl (by kernel_rfl) (fun _ _ _ h => h) rfl rfl (fun W hW => ex_move W _ _ rfl rfl) hS.out ?_; simp only [Act.put, List.setIfInBounds_toArray, List.set_cons_zero, List.set_cons_succ]
          refine rn_take (i := 6) (dst := some 12) (v := .slice (some ⟨b2, o2, none⟩) lb.length cB) rfl (by kernel_rfl) (fun _ _ _ h => h) rfl rfl (fun W hW => ex_move W _ _ rfl rfl) hS.out ?_; simp only [Act.put, List.setIfInBounds_toArray, List.set_cons_zero, List.set_cons_succ]
          refine rn_take (i := 7) (dst := some 13) (v := .int .i64 (lb.length : Int)) rfl (by kernel_rfl) (fun _ _ _ h => h) rfl rfl (fun W hW => ex_len W 23 _ rfl Try.underlying23 _ _ _ rfl) hS.out ?_; simp only [Act.put, List.setIfInBounds_toArray, List.set_cons_zero, List.set_cons_succ]
          refine rn_take (i := 8) (dst := some 14) (v := .bool true) rfl (by kernel_rfl) (fun _ _ _ h => h) rfl rfl (fun W hW => ex_lss W _ _ _ _ rfl .i64 _ _ rfl rfl _ h2B.out) hS.out ?_; simp only [Act.put, List.setIfInBounds_toArray, List.set_cons_zero, List.set_cons_succ]
          refine rn_take (i := 9) (dst := some 15) (v := .bool true) rfl (by kernel_rfl) (fun _ _ _ h => h) rfl rfl (fun W hW => ex_pick W _ _ _ rfl true _ rfl rfl) hS.out ?_; simp only [Act.put, List.setIfInBounds_toArray, List.set_cons_zero, List.set_cons_succ]
          refine rn_take (i := 10) (dst := some 16) (v := .bool true) rfl (by kernel_rfl) (fun _ _ _ h => h) rfl rfl (fun W hW => ex_move W _ _ rfl rfl) hS.out ?_; simp only [Act.put, List.setIfInBounds_toArray, List.set_cons_zero, List.set_cons_succ]
          refine rn_take (i := 11) (dst := some 17) (v := .slice (some ⟨b1, o1, none⟩) la.length cA) rfl (by kernel_rfl) (fun _ _ _ h => h) rfl rfl (fun W hW => ex_move W _ _ rfl rfl) hS.out ?_; simp only [Act.put, List.setIfInBounds_toArray, List.set_cons_zero, List.set_cons_succ]
          refine rn_take (i := 12) (dst := some 18) (v := .int .i64 (k : Int)) rfl (by kernel_rfl) (fun _ _ _ h => h) rfl rfl (fun W hW => ex_move W _ _ rfl rfl) hS.out ?_; simp only [Act.put, List.setIfInBounds_toArray, List.set_cons_zero, List.set_cons_succ]
          refine rn_take (i := 13) (dst := some 19) (v := .pointer (some ⟨b1, o1 + k * 1, none⟩)) rfl (by kernel_rfl) (fun _ _ _ h => h) rfl rfl (fun W hW => ex_index W 23 5 _ _ rfl 1 k Try.underlying23 inf5s b1 o1 _ _ rfl .i64 rfl h1) hS.out ?_; simp only [Act.put, List.setIfInBounds_toArray, List.set_cons_zero, List.set_cons_succ]
          refine rn_take (i := 14) (dst := some 20) (v := .int .u8 x) rfl (by kernel_rfl) (fun _ _ _ h => h) rfl rfl (fun W hW => ex_load W 5 _ _ rfl ⟨b1, o1 + k * 1, none⟩ Try.underlying5 rfl rfl hW.1) hS.out ?_; simp only [Act.put, List.setIfInBounds_toArray, List.set_cons_zero, List.set_cons_succ]
          refine rn_take (i := 15) (dst := some 21) (v := .slice (some ⟨b2, o2, none⟩) lb.length cB) rfl (by kernel_rfl) (fun _ _ _ h => h) rfl rfl (fun W hW => ex_move W _ _ rfl rfl) hS.out ?_; simp only [Act.put, List.setIfInBounds_toArray, List.set_cons_zero, List.set_cons_succ]
          refine rn_take (i := 16) (dst := some 22) (v := .int .i64 (k : Int)) rfl (by kernel_rfl) (fun _ _ _ h => h) rfl rfl (fun W hW => ex_move W _ _ rfl rfl) hS.out ?_; simp only [Act.put, List.setIfInBounds_toArray, List.set_cons_zero, List.set_cons_succ]
          refine rn_take (i := 17) (dst := some 23) (v := .pointer (some ⟨b2, o2 + k * 1, none⟩)) rfl (by kernel_rfl) (fun _ _ _ h => h) rfl rfl (fun W hW => ex_index W 23 5 _ _ rfl 1 k Try.underlying23 inf5s b2 o2 _ _ rfl .i64 rfl h2) hS.out ?_; simp only [Act.put, List.setIfInBounds_toArray, List.set_cons_zero, List.set_cons_succ]
          refine rn_take (i := 18) (dst := some 24) (v := .int .u8 y) rfl (by kernel_rfl) (fun _ _ _ h => h) rfl rfl (fun W hW => ex_load W 5 _ _ rfl ⟨b2, o2 + k * 1, none⟩ Try.underlying5 rfl rfl hW.2) hS.out ?_; simp only [Act.put, List.setIfInBounds_toArray, List.set_cons_zero, List.set_cons_succ]
          refine rn_take (i := 19) (dst := some 25) (v := .bool true) rfl (by kernel_rfl) (fun _ _ _ h => h) rfl rfl (fun W hW => ex_eql W _ _ _ _ rfl .u8 _ _ rfl rfl _ h3B.out) hS.out ?_; simp only [Act.put, List.setIfInBounds_toArray, List.set_cons_zero, List.set_cons_succ]
          refine rn_take (i := 20) (dst := some 26) (v := .bool true) rfl (by kernel_rfl) (fun _ _ _ h => h) rfl rfl (fun W hW => ex_pick W _ _ _ rfl true _ rfl rfl) hS.out ?_; simp only [Act.put, List.setIfInBounds_toArray, List.set_cons_zero, List.set_cons_succ]
          refine rn_done (by kernel_rfl) ?_ _
          go_wp2_with fail
          exact ⟨⟨k + 1, by go_num, hlt.out, ⟨HK.out.drew⟩⟩, by have := hlt.out; simp [intOf]; omega⟩
        · have hke := Hd.mk (show k = pre la lb by have := mt hst.1 hx; omega)
          have h3B : Hd (decide (x = y) = false) := ⟨by simpa using hx⟩
          clear hst hle hk hx
          have hS : Hd ((fun W : World => W.cell? ⟨b1, o1 + k * 1, none⟩ = some (.int .u8 x) ∧ W.cell? ⟨b2, o2 + k * 1, none⟩ = some (.int .u8 y)) wr.drew) := ⟨⟨hc1, hc2⟩⟩
          go_wp2_with fail
          refine rn_begin (fun W : World => W.cell? ⟨b1, o1 + k * 1, none⟩ = some (.int .u8 x) ∧ W.cell? ⟨b2, o2 + k * 1, none⟩ = some (.int .u8 y)) (List.range 21) (by kernel_rfl) ?_
          refine rn_take (i := 0) (dst := some 6) (v := .int .i64 (k : Int)) rfl (by kernel_rfl) (fun _ _ _ h => h) rfl rfl (fun W hW => ex_move W _ _ rfl rfl) hS.out ?_; simp only [Act.put, List.setIfInBounds_toArray, List.set_cons_zero, List.set_cons_succ]
          refine rn_take (i := 1) (dst := some 7) (v := .slice (some ⟨b1, o1, none⟩) la.length cA) rfl (by kernel_rfl) (fun _ _ _ h => h) rfl rfl (fun W hW => ex_move W _ _ rfl rfl) hS.out ?_; simp only [Act.put, List.setIfInBounds_toArray, List.set_cons_zero, List.set_cons_succ]
          refine rn_take (i := 2) (dst := some 8) (v := .int .i64 (la.length : Int)) rfl (by kernel_rfl) (fun _ _ _ h => h) rfl rfl (fun W hW => ex_len W 23 _ rfl Try.underlying23 _ _ _ rfl) hS.out ?_; simp only [Act.put, List.setIfInBounds_toArray, List.set_cons_zero, List.set_cons_succ]
          refine rn_take (i := 3) (dst := some 9) (v := .bool true) rfl (by kernel_rfl) (fun _ _ _ h => h) rfl rfl (fun W hW => ex_lss W _ _ _ _ rfl .i64 _ _ rfl rfl _ h1B.out) hS.out ?_; simp only [Act.put, List.setIfInBounds_toArray, List.set_cons_zero, List.set_cons_succ]
          refine rn_take (i := 4) (dst := some 10) (v := .bool true) rfl (by kernel_rfl) (fun _ _ _ h => h) rfl rfl (fun W hW => ex_move W _ _ rfl rfl) hS.out ?_; simp only [Act.put, List.setIfInBounds_toArray, List.set_cons_zero, List.set_cons_succ]
          refine rn_take (i := 5) (dst := some 11) (v := .int .i64 (k : Int)) rfl (by kernel_rfl) (fun _ _ _ h => h) rfl rfl (fun W hW => ex_move W _ _ rfl rfl) hS.out ?_; simp only [Act.put, List.setIfInBounds_toArray, List.set_cons_zero, List.set_cons_succ]
          refine rn_take (i := 6) (dst := some 12) (v := .slice (some ⟨b2, o2, none⟩) lb.length cB) rfl (by kernel_rfl) (fun _ _ _ h => h) rfl rfl (fun W hW => ex_move W _ _ rfl rfl) hS.out ?_; simp only [Act.put, List.setIfInBounds_toArray, List.set_cons_zero, List.set_cons_succ]
          refine rn_take (i := 7) (dst := some 13) (v := .int .i64 (lb.length : Int)) rfl (by kernel_rfl) (fun _ _ _ h => h) rfl rfl (fun W hW => ex_len W 23 _ rfl Try.underlying23 _ _ _ rfl) hS.out ?_; simp only [Act.put, List.setIfInBounds_toArray, List.set_cons_zero, List.set_cons_succ]
          refine rn_take (i := 8) (dst := some 14) (v := .bool true) rfl (by kernel_rfl) (fun _ _ _ h => h) rfl rfl (fun W hW => ex_lss W _ _ _ _ rfl .i64 _ _ rfl rfl _ h2B.out) hS.out ?_; simp only [Act.put, List.setIfInBounds_toArray, List.set_cons_zero, List.set_cons_succ]
          refine rn_take (i := 9) (dst := some 15) (v := .bool true) rfl (by kernel_rfl) (fun _ _ _ h => h) rfl rfl (fun W hW => ex_pick W _ _ _ rfl true _ rfl rfl) hS.out ?_; simp only [Act.put, List.setIfInBounds_toArray, List.set_cons_zero, List.set_cons_succ]
          refine rn_take (i := 10) (dst := some 16) (v := .bool true) rfl (by kernel_rfl) (fun _ _ _ h => h) rfl rfl (fun W hW => ex_move W _ _ rfl rfl) hS.out ?_; simp only [Act.put, List.setIfInBounds_toArray, List.set_cons_zero, List.set_cons_succ]
          refine rn_take (i := 11) (dst := some 17) (v := .slice (some ⟨b1, o1, none⟩) la.length cA) rfl (by kernel_rfl) (fun _ _ _ h => h) rfl rfl (fun W hW => ex_move W _ _ rfl rfl) hS.out ?_; simp only [Act.put, List.setIfInBounds_toArray, List.set_cons_zero, List.set_cons_succ]
          refine rn_take (i := 12) (dst := some 18) (v := .int .i64 (k : Int)) rfl (by kernel_rfl) (fun _ _ _ h => h) rfl rfl (fun W hW => ex_move W _ _ rfl rfl) hS.out ?_; simp only [Act.put, List.setIfInBounds_toArray, List.set_cons_zero, List.set_cons_succ]
          refine rn_take (i := 13) (dst := some 19) (v := .pointer (some ⟨b1, o1 + k * 1, none⟩)) rfl (by kernel_rfl) (fun _ _ _ h => h) rfl rfl (fun W hW => ex_index W 23 5 _ _ rfl 1 k Try.underlying23 inf5s b1 o1 _ _ rfl .i64 rfl h1) hS.out ?_; simp only [Act.put, List.setIfInBounds_toArray, List.set_cons_zero, List.set_cons_succ]
          refine rn_take (i := 14) (dst := some 20) (v := .int .u8 x) rfl (by kernel_rfl) (fun _ _ _ h => h) rfl rfl (fun W hW => ex_load W 5 _ _ rfl ⟨b1, o1 + k * 1, none⟩ Try.underlying5 rfl rfl hW.1) hS.out ?_; simp only [Act.put, List.setIfInBounds_toArray, List.set_cons_zero, List.set_cons_succ]
          refine rn_take (i := 15) (dst := some 21) (v := .slice (some ⟨b2, o2, none⟩) lb.length cB) rfl (by kernel_rfl) (fun _ _ _ h => h) rfl rfl (fun W hW => ex_move W _ _ rfl rfl) hS.out ?_; simp only [Act.put, List.setIfInBounds_toArray, List.set_cons_zero, List.set_cons_succ]
          refine rn_take (i := 16) (dst := some 22) (v := .int .i64 (k : Int)) rfl (by kernel_rfl) (fun _ _ _ h => h) rfl rfl (fun W hW => ex_move W _ _ rfl rfl) hS.out ?_; simp only [Act.put, List.setIfInBounds_toArray, List.set_cons_zero, List.set_cons_succ]
          refine rn_take (i := 17) (dst := some 23) (v := .pointer (some ⟨b2, o2 + k * 1, none⟩)) rfl (by kernel_rfl) (fun _ _ _ h => h) rfl rfl (fun W hW => ex_index W 23 5 _ _ rfl 1 k Try.underlying23 inf5s b2 o2 _ _ rfl .i64 rfl h2) hS.out ?_; simp only [Act.put, List.setIfInBounds_toArray, List.set_cons_zero, List.set_cons_succ]
          refine rn_take (i := 18) (dst := some 24) (v := .int .u8 y) rfl (by kernel_rfl) (fun _ _ _ h => h) rfl rfl (fun W hW => ex_load W 5 _ _ rfl ⟨b2, o2 + k * 1, none⟩ Try.underlying5 rfl rfl hW.2) hS.out ?_; simp only [Act.put, List.setIfInBounds_toArray, List.set_cons_zero, List.set_cons_succ]
          refine rn_take (i := 19) (dst := some 25) (v := .bool false) rfl (by kernel_rfl) (fun _ _ _ h => h) rfl rfl (fun W hW => ex_eql W _ _ _ _ rfl .u8 _ _ rfl rfl _ h3B.out) hS.out ?_; simp only [Act.put, List.setIfInBounds_toArray, List.set_cons_zero, List.set_cons_succ]
          refine rn_take (i := 20) (dst := some 26) (v := .bool false) rfl (by kernel_rfl) (fun _ _ _ h => h) rfl rfl (fun W hW => ex_pick W _ _ _ rfl true _ rfl rfl) hS.out ?_; simp only [Act.put, List.setIfInBounds_toArray, List.set_cons_zero, List.set_cons_succ]
          refine rn_done (by kernel_rfl) ?_ _
          go_wp2_with fail
          go_ret
          exact ⟨ret_int (by rw [← hke.out]), HK.out.drew⟩
      · have h2B : Hd (decide ((k : Int) < (lb.length : Int)) = false) := ⟨by simp; omega⟩
        have hke := Hd.mk (show k = pre la lb by omega)
        clear hst hle h2 hk hra hrb
        have hS : Hd ((fun W : World => True) wr.drew) := ⟨trivial⟩
        go_wp2_with fail
        refine rn_begin (fun W : World => True) (List.range 21) (by kernel_rfl) ?_
        refine rn_take (i := 0) (dst := some 6) (v := .int .i64 (k : Int)) rfl (by kernel_rfl) (fun _ _ _ h => h) rfl rfl (fun W hW => ex_move W _ _ rfl rfl) hS.out ?_; simp only [Act.put, List.setIfInBounds_toArray, List.set_cons_zero, List.set_cons_succ]
        refine rn_take (i := 1) (dst := some 7) (v := .slice A la.length cA) rfl (by kernel_rfl) (fun _ _ _ h => h) rfl rfl (fun W hW => ex_move W _ _ rfl rfl) hS.out ?_; simp only [Act.put, List.setIfInBounds_toArray, List.set_cons_zero, List.set_cons_succ]
        refine rn_take (i := 2) (dst := some 8) (v := .int .i64 (la.length : Int)) rfl (by kernel_rfl) (fun _ _ _ h => h) rfl rfl (fun W hW => ex_len W 23 _ rfl Try.underlying23 _ _ _ rfl) hS.out ?_; simp only [Act.put, List.setIfInBounds_toArray, List.set_cons_zero, List.set_cons_succ]
        refine rn_take (i := 3) (dst := some 9) (v := .bool true) rfl (by kernel_rfl) (fun _ _ _ h => h) rfl rfl (fun W hW => ex_lss W _ _ _ _ rfl .i64 _ _ rfl rfl _ h1B.out) hS.out ?_; simp only [Act.put, List.setIfInBounds_toArray, List.set_cons_zero, List.set_cons_succ]
        refine rn_take (i := 4) (dst := some 10) (v := .bool true) rfl (by kernel_rfl) (fun _ _ _ h => h) rfl rfl (fun W hW => ex_move W _ _ rfl rfl) hS.out ?_; simp only [Act.put, List.setIfInBounds_toArray, List.set_cons_zero, List.set_cons_succ]
        refine rn_take (i := 5) (dst := some 11) (v := .int .i64 (k : Int)) rfl (by kernel_rfl) (fun _ _ _ h => h) rfl rfl (fun W hW => ex_move W _ _ rfl rfl) hS.out ?_; simp only [Act.put, List.setIfInBounds_toArray, List.set_cons_zero, List.set_cons_succ]
        refine rn_take (i := 6) (dst := some 12) (v := .slice B lb.length cB) rfl (by kernel_rfl) (fun _ _ _ h => h) rfl rfl (fun W hW => ex_move W _ _ rfl rfl) hS.out ?_; simp only [Act.put, List.setIfInBounds_toArray, List.set_cons_zero, List.set_cons_succ]
        refine rn_take (i := 7) (dst := some 13) (v := .int .i64 (lb.length : Int)) rfl (by kernel_rfl) (fun _ _ _ h => h) rfl rfl (fun W hW => ex_len W 23 _ rfl Try.underlying23 _ _ _ rfl) hS.out ?_; simp only [Act.put, List.setIfInBounds_toArray, List.set_cons_zero, List.set_cons_succ]
        refine rn_take (i := 8) (dst := some 14) (v := .bool false) rfl (by kernel_rfl) (fun _ _ _ h => h) rfl rfl (fun W hW => ex_lss W _ _ _ _ rfl .i64 _ _ rfl rfl _ h2B.out) hS.out ?_; simp only [Act.put, List.setIfInBounds_toArray, List.set_cons_zero, List.set_cons_succ]
        refine rn_take (i := 9) (dst := some 15) (v := .bool false) rfl (by kernel_rfl) (fun _ _ _ h => h) rfl rfl (fun W hW => ex_pick W _ _ _ rfl true _ rfl rfl) hS.out ?_; simp only [Act.put, List.setIfInBounds_toArray, List.set_cons_zero, List.set_cons_succ]
        refine rn_take (i := 10) (dst := some 16) (v := .bool false) rfl (by kernel_rfl) (fun _ _ _ h => h) rfl rfl (fun W hW => ex_move W _ _ rfl rfl) hS.out ?_; simp only [Act.put, List.setIfInBounds_toArray, List.set_cons_zero, List.set_cons_succ]
        refine rn_pass (i := 11) (dst := some 17) rfl (by kernel_rfl) (fun _ _ _ h => h) rfl rfl hS.out ?_; simp only [Act.put, List.setIfInBounds_toArray, List.set_cons_zero, List.set_cons_succ]
        refine rn_pass (i := 12) (dst := some 18) rfl (by kernel_rfl) (fun _ _ _ h => h) rfl rfl hS.out ?_; simp only [Act.put, List.setIfInBounds_toArray, List.set_cons_zero, List.set_cons_succ]
        refine rn_pass (i := 13) (dst := some 19) rfl (by kernel_rfl) (fun _ _ _ h => h) rfl rfl hS.out ?_; simp only [Act.put, List.setIfInBounds_toArray, List.set_cons_zero, List.set_cons_succ]
        refine rn_pass (i := 14) (dst := some 20) rfl (by kernel_rfl) (fun _ _ _ h => h) rfl rfl hS.out ?_; simp only [Act.put, List.setIfInBounds_toArray, List.set_cons_zero, List.set_cons_succ]
        refine rn_pass (i := 15) (dst := some 21) rfl (by kernel_rfl) (fun _ _ _ h => h) rfl rfl hS.out ?_; simp only [Act.put, List.setIfInBounds_toArray, List.set_cons_zero, List.set_cons_succ]
        refine rn_pass (i := 16) (dst := some 22) rfl (by kernel_rfl) (fun _ _ _ h => h) rfl rfl hS.out ?_; simp only [Act.put, List.setIfInBounds_toArray, List.set_cons_zero, List.set_cons_succ]
        refine rn_pass (i := 17) (dst := some 23) rfl (by kernel_rfl) (fun _ _ _ h => h) rfl rfl hS.out ?_; simp only [Act.put, List.setIfInBounds_toArray, List.set_cons_zero, List.set_cons_succ]
        refine rn_pass (i := 18) (dst := some 24) rfl (by kernel_rfl) (fun _ _ _ h => h) rfl rfl hS.out ?_; simp only [Act.put, List.setIfInBounds_toArray, List.set_cons_zero, List.set_cons_succ]
        refine rn_pass (i := 19) (dst := some 25) rfl (by kernel_rfl) (fun _ _ _ h => h) rfl rfl hS.out ?_; simp only [Act.put, List.setIfInBounds_toArray, List.set_cons_zero, List.set_cons_succ]
        refine rn_take (i := 20) (dst := some 26) (v := .bool false) rfl (by kernel_rfl) (fun _ _ _ h => h) rfl rfl (fun W hW => ex_pick W _ _ _ rfl false _ rfl rfl) hS.out ?_; simp only [Act.put, List.setIfInBounds_toArray, List.set_cons_zero, List.set_cons_succ]
        refine rn_done (by kernel_rfl) ?_ _
        go_wp2_with fail
        go_ret
        exact ⟨ret_int (by rw [← hke.out]), HK.out.drew⟩
    · have h1B : Hd (decide ((k : Int) < (la.length : Int)) = false) := ⟨by simp; omega⟩
      have hke := Hd.mk (show k = pre la lb by omega)
      clear hst hle h1 hk hra hrb
      have hS : Hd ((fun W : World => True) wr.drew) := ⟨trivial⟩
      go_wp2_with fail
      refine rn_begin (fun W : World => True) (List.range 21) (by kernel_rfl) ?_
      refine rn_take (i := 0) (dst := some 6) (v := .int .i64 (k : Int)) rfl (by kernel_rfl) (fun _ _ _ h => h) rfl rfl (fun W hW => ex_move W _ _ rfl rfl) hS.out ?_; simp only [Act.put, List.setIfInBounds_toArray, List.set_cons_zero, List.set_cons_succ]
      refine rn_take (i := 1) (dst := some 7) (v := .slice A la.length cA) rfl (by kernel_rfl) (fun _ _ _ h => h) rfl rfl (fun W hW => ex_move W _ _ rfl rfl) hS.out ?_; simp only [Act.put, List.setIfInBounds_toArray, List.set_cons_zero, List.set_cons_succ]
      refine rn_take (i := 2) (dst := some 8) (v := .int .i64 (la.length : Int)) rfl (by kernel_rfl) (fun _ _ _ h => h) rfl rfl (fun W hW => ex_len W 23 _ rfl Try.underlying23 _ _ _ rfl) hS.out ?_; simp only [Act.put, List.setIfInBounds_toArray, List.set_cons_zero, List.set_cons_succ]
      refine rn_take (i := 3) (dst := some 9) (v := .bool false) rfl (by kernel_rfl) (fun _ _ _ h => h) rfl rfl (fun W hW => ex_lss W _ _ _ _ rfl .i64 _ _ rfl rfl _ h1B.out) hS.out ?_; simp only [Act.put, List.setIfInBounds_toArray, List.set_cons_zero, List.set_cons_succ]
      refine rn_take (i := 4) (dst := some 10) (v := .bool false) rfl (by kernel_rfl) (fun _ _ _ h => h) rfl rfl (fun W hW => ex_move W _ _ rfl rfl) hS.out ?_; simp only [Act.put, List.setIfInBounds_toArray, List.set_cons_zero, List.set_cons_succ]
      refine rn_pass (i := 5) (dst := some 11) rfl (by kernel_rfl) (fun _ _ _ h => h) rfl rfl hS.out ?_; simp only [Act.put, List.setIfInBounds_toArray, List.set_cons_zero, List.set_cons_succ]
      refine rn_pass (i := 6) (dst := some 12) rfl (by kernel_rfl) (fun _ _ _ h => h) rfl rfl hS.out ?_; simp only [Act.put, List.setIfInBounds_toArray, List.set_cons_zero, List.set_cons_succ]
      refine rn_pass (i := 7) (dst := some 13) rfl (by kernel_rfl) (fun _ _ _ h => h) rfl rfl hS.out ?_; simp only [Act.put, List.setIfInBounds_toArray, List.set_cons_zero, List.set_cons_succ]
      refine rn_pass (i := 8) (dst := some 14) rfl (by kernel_rfl) (fun _ _ _ h => h) rfl rfl hS.out ?_; simp only [Act.put, List.setIfInBounds_toArray, List.set_cons_zero, List.set_cons_succ]
      refine rn_take (i := 9) (dst := some 15) (v := .bool false) rfl (by kernel_rfl) (fun _ _ _ h => h) rfl rfl (fun W hW => ex_pick W _ _ _ rfl false _ rfl rfl) hS.out ?_; simp only [Act.put, List.setIfInBounds_toArray, List.set_cons_zero, List.set_cons_succ]
      refine rn_take (i := 10) (dst := some 16) (v := .bool false) rfl (by kernel_rfl) (fun _ _ _ h => h) rfl rfl (fun W hW => ex_move W _ _ rfl rfl) hS.out ?_; simp only [Act.put, List.setIfInBounds_toArray, List.set_cons_zero, List.set_cons_succ]
      refine rn_pass (i := 11) (dst := some 17) rfl (by kernel_rfl) (fun _ _ _ h => h) rfl rfl hS.out ?_; simp only [Act.put, List.setIfInBounds_toArray, List.set_cons_zero, List.set_cons_succ]
      refine rn_pass (i := 12) (dst := some 18) rfl (by kernel_rfl) (fun _ _ _ h => h) rfl rfl hS.out ?_; simp only [Act.put, List.setIfInBounds_toArray, List.set_cons_zero, List.set_cons_succ]
      refine rn_pass (i := 13) (dst := some 19) rfl (by kernel_rfl) (fun _ _ _ h => h) rfl rfl hS.out ?_; simp only [Act.put, List.setIfInBounds_toArray, List.set_cons_zero, List.set_cons_succ]
      refine rn_pass (i := 14) (dst := some 20) rfl (by kernel_rfl) (fun _ _ _ h => h) rfl rfl hS.out ?_; simp only [Act.put, List.setIfInBounds_toArray, List.set_cons_zero, List.set_cons_succ]
      refine rn_pass (i := 15) (dst := some 21) rfl (by kernel_rfl) (fun _ _ _ h => h) rfl rfl hS.out ?_; simp only [Act.put, List.setIfInBounds_toArray, List.set_cons_zero, List.set_cons_succ]
      refine rn_pass (i := 16) (dst := some 22) rfl (by kernel_rfl) (fun _ _ _ h => h) rfl rfl hS.out ?_; simp only [Act.put, List.setIfInBounds_toArray, List.set_cons_zero, List.set_cons_succ]
      refine rn_pass (i := 17) (dst := some 23) rfl (by kernel_rfl) (fun _ _ _ h => h) rfl rfl hS.out ?_; simp only [Act.put, List.setIfInBounds_toArray, List.set_cons_zero, List.set_cons_succ]
      refine rn_pass (i := 18) (dst := some 24) rfl (by kernel_rfl) (fun _ _ _ h => h) rfl rfl hS.out ?_; simp only [Act.put, List.setIfInBounds_toArray, List.set_cons_zero, List.set_cons_succ]
      refine rn_pass (i := 19) (dst := some 25) rfl (by kernel_rfl) (fun _ _ _ h => h) rfl rfl hS.out ?_; simp only [Act.put, List.setIfInBounds_toArray, List.set_cons_zero, List.set_cons_succ]
      refine rn_take (i := 20) (dst := some 26) (v := .bool false) rfl (by kernel_rfl) (fun _ _ _ h => h) rfl rfl (fun W hW => ex_pick W _ _ _ rfl false _ rfl rfl) hS.out ?_; simp only [Act.put, List.setIfInBounds_toArray, List.set_cons_zero, List.set_cons_succ]
      refine rn_done (by kernel_rfl) ?_ _
      go_wp2_with fail
      go_ret
      exact ⟨ret_int (by rw [← hke.out]), HK.out.drew⟩
end Go.Proofs.Ytkcechpaeilaeaa
