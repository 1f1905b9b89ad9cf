/- The document's cut and digits. -/
import Derived.Test.YtkcechpaeilaeaaGreatDoorC1
namespace Go.Proofs.YtkcechpaeilaeaaGreatDoor
open Go.RowKit
set_option linter.unusedVariables false
set_option linter.unusedSimpArgs false
set_option maxRecDepth 100000

theorem wd_at {l : List UInt8} {k : Nat} (h : (32 : UInt8) ∉ l.take k) (hc : l[k]? = some 32) : wd l = l.take k ∧ rs l = l.drop (k + 1) := by
  obtain ⟨h1, e⟩ := List.getElem?_eq_some_iff.1 hc
  have e2 : l = l.take k ++ 32 :: l.drop (k + 1) := by
    conv => lhs; rw [← List.take_append_drop k l, List.drop_eq_getElem_cons h1, e]
  have := wd_hit h (l.drop (k + 1))
  rw [← e2] at this
  exact this
theorem nb_succ {l : List UInt8} {k : Nat} {c : UInt8} (h : (32 : UInt8) ∉ l.take k) (hc : l[k]? = some c) (hne : c ≠ 32) : (32 : UInt8) ∉ l.take (k + 1) := by
  obtain ⟨h1, rfl⟩ := List.getElem?_eq_some_iff.1 hc
  rw [List.take_succ_eq_append_getElem h1]
  intro hm
  rcases List.mem_append.1 hm with hm | hm
  · exact h hm
  · exact hne (List.mem_singleton.1 hm).symm
set_option maxHeartbeats 1000000 in
theorem rcut_at (l : List UInt8) (hl : l.length < 4294967281) (w : World) : Calls Tryz.prog 53 #[.string ⟨l.toArray⟩] w fun e w' => (∃ b, e = .returned (.tuple #[.string ⟨(wd l).toArray⟩, .string ⟨(rs l).toArray⟩, .bool b])) ∧ Kp (fun _ => False) w w' := by
  have hL : (l.length : Int) < 4294967281 := by omega
  clear hl
  go_enter Tryz.func53, Tryz.ntmps53
  go_wp2_with fail
  go_loopw [5] (fun v5 wr => ∃ k : Nat, v5 = .int .i64 k ∧ (k : Int) ≤ (l.length : Int) ∧ Hd ((32 : UInt8) ∉ l.take k) ∧ w = wr) (fun v5 _ => l.length - (intOf v5).toNat)
  case atStart => exact ⟨0, rfl, by omega, ⟨by simp⟩, rfl⟩
  case round =>
    obtain ⟨k, rfl, hk, hn, rfl⟩ := hrel
    by_cases hlt : k < l.length
    · have hlt2 : (k : Int) < (l.length : Int) := by omega
      obtain ⟨c, hck⟩ : ∃ c, Hd (l[k]? = some c) := ⟨_, ⟨List.getElem?_eq_getElem hlt⟩⟩
      by_cases h32 : c = 32
      · subst h32
        have hw := Hd.mk (wd_at hn.out hck.out)
        go_wp2_with (first | (with_reducible refine wl_run rfl (ex_sidx _ 9 _ _ rfl rfl .i64 l k 32 hck.out _ rfl rfl rfl) ?_) | (with_reducible refine wl_run rfl (ex_slen _ 9 _ rfl rfl l rfl) ?_))
        have hS : Hd ((fun W : World => True) w.drew) := ⟨trivial⟩
        refine rn_begin (fun W : World => True) (List.range 12) (by kernel_rfl) ?_
        refine rn_take (i := 0) (dst := some 16) (v := .string ⟨(l).toArray⟩) rfl (by kernel_rfl) (fun _ _ _ h => h) rfl rfl (fun W hW => ex_move W _ _ rfl rfl) hS.out ?_
        simp only [Act.put, List.setIfInBounds_toArray, List.set_cons_zero, List.set_cons_succ]
        refine rn_take (i := 1) (dst := some 17) (v := .int .i64 ((k : Nat) : Int)) rfl (by kernel_rfl) (fun _ _ _ h => h) rfl rfl (fun W hW => ex_move W _ _ rfl rfl) hS.out ?_
        simp only [Act.put, List.setIfInBounds_toArray, List.set_cons_zero, List.set_cons_succ]
        refine rn_take (i := 2) (dst := some 18) (v := .string ⟨(l.take k).toArray⟩) rfl (by kernel_rfl) (fun _ _ _ h => h) rfl rfl (fun W hW => ex_sto W 9 _ _ rfl Tryz.underlying9 l .i64 k (by first | omega | (simp; done)) rfl rfl) hS.out ?_
        simp only [Act.put, List.setIfInBounds_toArray, List.set_cons_zero, List.set_cons_succ]
        refine rn_take (i := 3) (dst := some 19) (v := .string ⟨(l).toArray⟩) rfl (by kernel_rfl) (fun _ _ _ h => h) rfl rfl (fun W hW => ex_move W _ _ rfl rfl) hS.out ?_
        simp only [Act.put, List.setIfInBounds_toArray, List.set_cons_zero, List.set_cons_succ]
        refine rn_take (i := 4) (dst := some 20) (v := .int .i64 ((k : Nat) : Int)) rfl (by kernel_rfl) (fun _ _ _ h => h) rfl rfl (fun W hW => ex_move W _ _ rfl rfl) hS.out ?_
        simp only [Act.put, List.setIfInBounds_toArray, List.set_cons_zero, List.set_cons_succ]
        refine rn_take (i := 5) (dst := some 21) (v := .int .i64 ((k + 1 : Nat) : Int)) rfl (by kernel_rfl) (fun _ _ _ h => h) rfl rfl (fun W hW => er_add W 3 _ _ _ rfl k 1 (k + 1) (by first | rfl | omega) rfl rfl (by omega)) hS.out ?_
        simp only [Act.put, List.setIfInBounds_toArray, List.set_cons_zero, List.set_cons_succ]
        refine rn_take (i := 6) (dst := some 22) (v := .string ⟨(l.drop (k + 1)).toArray⟩) rfl (by kernel_rfl) (fun _ _ _ h => h) rfl rfl (fun W hW => ex_sfrom W 9 _ _ rfl Tryz.underlying9 l .i64 (k + 1) (by first | omega | (simp; done)) rfl rfl) hS.out ?_
        simp only [Act.put, List.setIfInBounds_toArray, List.set_cons_zero, List.set_cons_succ]
        refine rn_take (i := 7) (dst := some 2) (v := .string ⟨(l.take k).toArray⟩) rfl (by kernel_rfl) (fun _ _ _ h => h) rfl rfl (fun W hW => ex_assign W _ _ rfl rfl) hS.out ?_
        simp only [Act.put, List.setIfInBounds_toArray, List.set_cons_zero, List.set_cons_succ]
        refine rn_take (i := 8) (dst := some 3) (v := .string ⟨(l.drop (k + 1)).toArray⟩) rfl (by kernel_rfl) (fun _ _ _ h => h) rfl rfl (fun W hW => ex_assign W _ _ rfl rfl) hS.out ?_
        simp only [Act.put, List.setIfInBounds_toArray, List.set_cons_zero, List.set_cons_succ]
        refine rn_take (i := 9) (dst := some 4) (v := .bool true) rfl (by kernel_rfl) (fun _ _ _ h => h) rfl rfl (fun W hW => ex_assign W _ _ rfl rfl) hS.out ?_
        simp only [Act.put, List.setIfInBounds_toArray, List.set_cons_zero, List.set_cons_succ]
        refine rn_done (by kernel_rfl) ?_ _
        clear hS
        go_wp2_with fail
        go_ret3
        rw [hw.out.1, hw.out.2]
        exact ⟨⟨_, rfl⟩, (Kp.refl _ w).drew⟩
      · have hcn : Hd (decide ((c.toNat : Int) = 32) = false) := ⟨decide_eq_false (fun e => h32 (UInt8.toNat_inj.1 (show c.toNat = 32 by omega)))⟩
        have hn2 := Hd.mk (nb_succ hn.out hck.out h32)
        clear h32
        go_wp2_with (first | (with_reducible refine wl_run rfl (ex_sidx _ 9 _ _ rfl rfl .i64 l k c hck.out _ rfl rfl rfl) ?_) | (with_reducible refine wl_run rfl (ex_slen _ 9 _ rfl rfl l rfl) ?_) | ((with_reducible refine wl_run rfl (ex_eql _ 5 5 (.tmp 14) (.const (.int .u8 32)) rfl .u8 (c.toNat : Int) 32 rfl rfl false hcn.out) ?_); simp only [Act.put, List.setIfInBounds_toArray, List.set_cons_zero, List.set_cons_succ]))
        exact ⟨⟨k + 1, by go_num, by omega, hn2, trivial⟩, by simp [intOf]; omega⟩
    · have hk2 : (k : Int) = l.length := by omega
      have hw : Hd (wd l = l ∧ rs l = []) := ⟨wd_miss (by have := hn.out; rw [List.take_of_length_le (by omega)] at this; exact this)⟩
      clear hlt
      go_wp2_with (with_reducible refine wl_run rfl (ex_slen _ 9 _ rfl rfl l rfl) ?_)
      go_ret3
      rw [hw.out.1, hw.out.2]
      exact ⟨⟨_, rfl⟩, Kp.refl _ w⟩
/-! ### digits -/
theorem digstep_no {l : List UInt8} {k : Nat} {c : UInt8} (h : l[k]? = some c) (hc : c.toNat < 48 ∨ 57 < c.toNat) (n : Nat) : digstep (l.drop k) n = -1 := by
  obtain ⟨h1, rfl⟩ := List.getElem?_eq_some_iff.1 h
  rw [List.drop_eq_getElem_cons h1, digstep, if_neg (by omega)]
theorem digstep_yes {l : List UInt8} {k : Nat} {c : UInt8} (h : l[k]? = some c) (hc : 48 ≤ c.toNat ∧ c.toNat ≤ 57) (n : Nat) : digstep (l.drop k) n = digstep (l.drop (k + 1)) (n * 10 + (c.toNat - 48)) := by
  obtain ⟨h1, rfl⟩ := List.getElem?_eq_some_iff.1 h
  rw [List.drop_eq_getElem_cons h1, digstep, if_pos hc]
/-- Whether the digits are none by their number or their first. -/
def digbad (l : List UInt8) : Prop := l = [] ∨ 9 < l.length ∨ (1 < l.length ∧ l.head? = some 48)
theorem dig_bad {l : List UInt8} (h : digbad l) : dig l = -1 := if_pos h
theorem dig_good {l : List UInt8} (h : ¬ digbad l) : dig l = digstep l 0 := if_neg h
set_option maxHeartbeats 1000000 in
theorem dig_at (l : List UInt8) (hl : l.length < 4294967281) (w : World) : Calls Tryz.prog 54 #[.string ⟨l.toArray⟩] w fun e w' => e = .returned (.int .i64 (dig l)) ∧ w = w' := by
  have hL : (l.length : Int) < 4294967281 := by omega
  clear hl
  by_cases h0 : l.length = 0
  · have e : l = [] := List.eq_nil_of_length_eq_zero h0
    subst e
    go_enter Tryz.func54, Tryz.ntmps54
    go_wp2_with fail
    go_ret
    exact ⟨rfl, rfl⟩
  · obtain ⟨c0, hc0⟩ : ∃ c, Hd (l[0]? = some c) := ⟨_, ⟨List.getElem?_eq_getElem (by omega)⟩⟩
    have d0 : Hd (decide ((l.length : Int) = 0) = false) := ⟨decide_eq_false (by omega)⟩
    obtain ⟨x9, e9⟩ : ∃ b, Hd (decide ((9 : Int) < (l.length : Int)) = b) := ⟨_, ⟨rfl⟩⟩
    obtain ⟨x1, e1⟩ : ∃ b, Hd (decide ((1 : Int) < (l.length : Int)) = b) := ⟨_, ⟨rfl⟩⟩
    obtain ⟨x0, e0⟩ : ∃ b, Hd (decide ((c0.toNat : Int) = 48) = b) := ⟨_, ⟨rfl⟩⟩
    have hne : Hd (l ≠ []) := ⟨fun e => h0 (by rw [e]; rfl)⟩
    have hh : Hd (l.head? = some c0) := ⟨by rw [List.head?_eq_getElem?]; exact hc0.out⟩
    clear h0
    cases x9
    · cases x1
      · have hg : Hd (dig l = digstep l 0) := ⟨dig_good (fun h => h.elim (fun h => hne.out h) (fun h => h.elim (fun h => by have := of_decide_eq_false e9.out; omega) (fun h => by have := of_decide_eq_false e1.out; have := h.1; omega)))⟩
        rw [hg.out]
        have l9 : (l.length : Int) ≤ 9 := by
          have := of_decide_eq_false e9.out
          omega
        go_enter Tryz.func54, Tryz.ntmps54
        go_wp2_with (first | (with_reducible refine wl_run rfl (ex_slen _ 9 _ rfl rfl l rfl) ?_) | ((with_reducible refine wl_runG ?hw (ex_slen _ 9 _ rfl rfl l rfl) ?_); (case hw => rfl)) | ((with_reducible refine wl_run rfl (ex_eql _ 3 3 (.tmp 6) (.const (.int .i64 0)) rfl .i64 (l.length : Int) 0 rfl rfl _ d0.out) ?_); simp only [Act.put, List.setIfInBounds_toArray, List.set_cons_zero, List.set_cons_succ]) | ((with_reducible refine wl_runG ?hw (ex_gtr _ 3 3 (.tmp 10) (.const (.int .i64 9)) rfl .i64 (l.length : Int) 9 rfl rfl _ e9.out) ?_); (case hw => rfl); simp only [Act.put, List.setIfInBounds_toArray, List.set_cons_zero, List.set_cons_succ]) | ((with_reducible refine wl_runG ?hw (ex_gtr _ 3 3 (.tmp 15) (.const (.int .i64 1)) rfl .i64 (l.length : Int) 1 rfl rfl _ e1.out) ?_); (case hw => rfl); simp only [Act.put, List.setIfInBounds_toArray, List.set_cons_zero, List.set_cons_succ]) | ((with_reducible refine wl_runG ?hw (ex_sidx _ 9 (.tmp 18) (.const (.int .i64 0)) rfl rfl .i64 l 0 c0 hc0.out _ ?hz rfl rfl) ?_); (case hw => rfl); (case hz => rfl)) | ((with_reducible refine wl_runG ?hw (ex_eql _ 5 5 (.tmp 19) (.const (.int .u8 48)) rfl .u8 (c0.toNat : Int) 48 rfl rfl _ e0.out) ?_); (case hw => rfl); simp only [Act.put, List.setIfInBounds_toArray, List.set_cons_zero, List.set_cons_succ]))
        go_loopw [3, 4] (fun v3 v4 wr => ∃ k n : Nat, v3 = .int .i64 n ∧ v4 = .int .i64 k ∧ (k : Int) ≤ (l.length : Int) ∧ Hd (n + 1 ≤ 10 ^ k ∧ digstep l 0 = digstep (l.drop k) n) ∧ w = wr) (fun _ v4 _ => l.length - (intOf v4).toNat)
        case atStart => exact ⟨0, 0, rfl, rfl, by omega, ⟨by decide, by simp⟩, rfl⟩
        case round =>
          obtain ⟨k, n, rfl, rfl, hk, hn, rfl⟩ := hrel
          have hp : n < 1000000000 := by
            have h1 := hn.out.1
            have h2 : 10 ^ k ≤ 10 ^ 9 := Nat.pow_le_pow_right (by decide) (by omega)
            omega
          have hp2 : (n : Int) < 1000000000 := by omega
          clear hp
          by_cases hlt : k < l.length
          · have hlt2 : (k : Int) < (l.length : Int) := by omega
            obtain ⟨c, hck⟩ : ∃ c, Hd (l[k]? = some c) := ⟨_, ⟨List.getElem?_eq_getElem hlt⟩⟩
            obtain ⟨y1, f1⟩ : ∃ b, Hd (decide ((c.toNat : Int) < 48) = b) := ⟨_, ⟨rfl⟩⟩
            obtain ⟨y2, f2⟩ : ∃ b, Hd (decide ((57 : Int) < (c.toNat : Int)) = b) := ⟨_, ⟨rfl⟩⟩
            clear hlt
            cases y1
            · cases y2
              · have g1 : (48 : Int) ≤ c.toNat := by have := of_decide_eq_false f1.out; omega
                have g2 : (c.toNat : Int) ≤ 57 := by have := of_decide_eq_false f2.out; omega
                have hy := Hd.mk (digstep_yes hck.out (by omega) n)
                go_wp2_with (first | (with_reducible refine wl_run rfl (ex_slen _ 9 _ rfl rfl l rfl) ?_) | (with_reducible refine wl_run rfl (ex_sidx _ 9 _ _ rfl rfl .i64 l k c hck.out _ rfl rfl rfl) ?_) | ((with_reducible refine wl_runG ?hw (ex_sidx _ 9 (.tmp 34) (.tmp 35) rfl rfl .i64 l k c hck.out _ ?hz rfl rfl) ?_); (case hw => rfl); (case hz => rfl)) | ((with_reducible refine wl_run rfl (ex_lss _ 5 5 (.tmp 31) (.const (.int .u8 48)) rfl .u8 (c.toNat : Int) 48 rfl rfl _ f1.out) ?_); simp only [Act.put, List.setIfInBounds_toArray, List.set_cons_zero, List.set_cons_succ]) | ((with_reducible refine wl_runG ?hw (ex_gtr _ 5 5 (.tmp 36) (.const (.int .u8 57)) rfl .u8 (c.toNat : Int) 57 rfl rfl _ f2.out) ?_); (case hw => rfl); simp only [Act.put, List.setIfInBounds_toArray, List.set_cons_zero, List.set_cons_succ]))
                refine ⟨⟨k + 1, n * 10 + (c.toNat - 48), congrArg (Value.int .i64) (by omega), by go_num, by omega, ⟨?_, by rw [hn.out.2, hy.out]⟩, trivial⟩, by simp [intOf]; omega⟩
                have := hn.out.1
                rw [Nat.pow_succ]
                omega
              · have hy := Hd.mk (digstep_no hck.out (.inr (by have := of_decide_eq_true f2.out; omega)) n)
                go_wp2_with (first | (with_reducible refine wl_run rfl (ex_slen _ 9 _ rfl rfl l rfl) ?_) | (with_reducible refine wl_run rfl (ex_sidx _ 9 _ _ rfl rfl .i64 l k c hck.out _ rfl rfl rfl) ?_) | ((with_reducible refine wl_runG ?hw (ex_sidx _ 9 (.tmp 34) (.tmp 35) rfl rfl .i64 l k c hck.out _ ?hz rfl rfl) ?_); (case hw => rfl); (case hz => rfl)) | ((with_reducible refine wl_run rfl (ex_lss _ 5 5 (.tmp 31) (.const (.int .u8 48)) rfl .u8 (c.toNat : Int) 48 rfl rfl _ f1.out) ?_); simp only [Act.put, List.setIfInBounds_toArray, List.set_cons_zero, List.set_cons_succ]) | ((with_reducible refine wl_runG ?hw (ex_gtr _ 5 5 (.tmp 36) (.const (.int .u8 57)) rfl .u8 (c.toNat : Int) 57 rfl rfl _ f2.out) ?_); (case hw => rfl); simp only [Act.put, List.setIfInBounds_toArray, List.set_cons_zero, List.set_cons_succ]))
                go_ret
                rw [hn.out.2, hy.out]
                exact ⟨rfl, rfl⟩
            · have hy := Hd.mk (digstep_no hck.out (.inl (by have := of_decide_eq_true f1.out; omega)) n)
              go_wp2_with (first | (with_reducible refine wl_run rfl (ex_slen _ 9 _ rfl rfl l rfl) ?_) | (with_reducible refine wl_run rfl (ex_sidx _ 9 _ _ rfl rfl .i64 l k c hck.out _ rfl rfl rfl) ?_) | ((with_reducible refine wl_runG ?hw (ex_sidx _ 9 (.tmp 34) (.tmp 35) rfl rfl .i64 l k c hck.out _ ?hz rfl rfl) ?_); (case hw => rfl); (case hz => rfl)) | ((with_reducible refine wl_run rfl (ex_lss _ 5 5 (.tmp 31) (.const (.int .u8 48)) rfl .u8 (c.toNat : Int) 48 rfl rfl _ f1.out) ?_); simp only [Act.put, List.setIfInBounds_toArray, List.set_cons_zero, List.set_cons_succ]) | ((with_reducible refine wl_runG ?hw (ex_gtr _ 5 5 (.tmp 36) (.const (.int .u8 57)) rfl .u8 (c.toNat : Int) 57 rfl rfl _ f2.out) ?_); (case hw => rfl); simp only [Act.put, List.setIfInBounds_toArray, List.set_cons_zero, List.set_cons_succ]))
              go_ret
              rw [hn.out.2, hy.out]
              exact ⟨rfl, rfl⟩
          · have hk2 : (k : Int) = l.length := by omega
            have hy : Hd (digstep l 0 = n) := ⟨by rw [hn.out.2, List.drop_of_length_le (by omega)]; rfl⟩
            clear hlt
            go_wp2_with (with_reducible refine wl_run rfl (ex_slen _ 9 _ rfl rfl l rfl) ?_)
            go_ret
            rw [hy.out]
            exact ⟨rfl, rfl⟩
      · cases x0
        · have hg : Hd (dig l = digstep l 0) := ⟨dig_good (fun h => h.elim (fun h => hne.out h) (fun h => h.elim (fun h => by have := of_decide_eq_false e9.out; omega) (fun h => by have h2 := h.2; rw [hh.out] at h2; injection h2 with h2; have := of_decide_eq_false e0.out; rw [h2] at this; exact this rfl)))⟩
          rw [hg.out]
          have l9 : (l.length : Int) ≤ 9 := by
            have := of_decide_eq_false e9.out
            omega
          go_enter Tryz.func54, Tryz.ntmps54
          go_wp2_with (first | (with_reducible refine wl_run rfl (ex_slen _ 9 _ rfl rfl l rfl) ?_) | ((with_reducible refine wl_runG ?hw (ex_slen _ 9 _ rfl rfl l rfl) ?_); (case hw => rfl)) | ((with_reducible refine wl_run rfl (ex_eql _ 3 3 (.tmp 6) (.const (.int .i64 0)) rfl .i64 (l.length : Int) 0 rfl rfl _ d0.out) ?_); simp only [Act.put, List.setIfInBounds_toArray, List.set_cons_zero, List.set_cons_succ]) | ((with_reducible refine wl_runG ?hw (ex_gtr _ 3 3 (.tmp 10) (.const (.int .i64 9)) rfl .i64 (l.length : Int) 9 rfl rfl _ e9.out) ?_); (case hw => rfl); simp only [Act.put, List.setIfInBounds_toArray, List.set_cons_zero, List.set_cons_succ]) | ((with_reducible refine wl_runG ?hw (ex_gtr _ 3 3 (.tmp 15) (.const (.int .i64 1)) rfl .i64 (l.length : Int) 1 rfl rfl _ e1.out) ?_); (case hw => rfl); simp only [Act.put, List.setIfInBounds_toArray, List.set_cons_zero, List.set_cons_succ]) | ((with_reducible refine wl_runG ?hw (ex_sidx _ 9 (.tmp 18) (.const (.int .i64 0)) rfl rfl .i64 l 0 c0 hc0.out _ ?hz rfl rfl) ?_); (case hw => rfl); (case hz => rfl)) | ((with_reducible refine wl_runG ?hw (ex_eql _ 5 5 (.tmp 19) (.const (.int .u8 48)) rfl .u8 (c0.toNat : Int) 48 rfl rfl _ e0.out) ?_); (case hw => rfl); simp only [Act.put, List.setIfInBounds_toArray, List.set_cons_zero, List.set_cons_succ]))
          go_loopw [3, 4] (fun v3 v4 wr => ∃ k n : Nat, v3 = .int .i64 n ∧ v4 = .int .i64 k ∧ (k : Int) ≤ (l.length : Int) ∧ Hd (n + 1 ≤ 10 ^ k ∧ digstep l 0 = digstep (l.drop k) n) ∧ w = wr) (fun _ v4 _ => l.length - (intOf v4).toNat)
          case atStart => exact ⟨0, 0, rfl, rfl, by omega, ⟨by decide, by simp⟩, rfl⟩
          case round =>
            obtain ⟨k, n, rfl, rfl, hk, hn, rfl⟩ := hrel
            have hp : n < 1000000000 := by
              have h1 := hn.out.1
              have h2 : 10 ^ k ≤ 10 ^ 9 := Nat.pow_le_pow_right (by decide) (by omega)
              omega
            have hp2 : (n : Int) < 1000000000 := by omega
            clear hp
            by_cases hlt : k < l.length
            · have hlt2 : (k : Int) < (l.length : Int) := by omega
              obtain ⟨c, hck⟩ : ∃ c, Hd (l[k]? = some c) := ⟨_, ⟨List.getElem?_eq_getElem hlt⟩⟩
              obtain ⟨y1, f1⟩ : ∃ b, Hd (decide ((c.toNat : Int) < 48) = b) := ⟨_, ⟨rfl⟩⟩
              obtain ⟨y2, f2⟩ : ∃ b, Hd (decide ((57 : Int) < (c.toNat : Int)) = b) := ⟨_, ⟨rfl⟩⟩
              clear hlt
              cases y1
              · cases y2
                · have g1 : (48 : Int) ≤ c.toNat := by have := of_decide_eq_false f1.out; omega
                  have g2 : (c.toNat : Int) ≤ 57 := by have := of_decide_eq_false f2.out; omega
                  have hy := Hd.mk (digstep_yes hck.out (by omega) n)
                  go_wp2_with (first | (with_reducible refine wl_run rfl (ex_slen _ 9 _ rfl rfl l rfl) ?_) | (with_reducible refine wl_run rfl (ex_sidx _ 9 _ _ rfl rfl .i64 l k c hck.out _ rfl rfl rfl) ?_) | ((with_reducible refine wl_runG ?hw (ex_sidx _ 9 (.tmp 34) (.tmp 35) rfl rfl .i64 l k c hck.out _ ?hz rfl rfl) ?_); (case hw => rfl); (case hz => rfl)) | ((with_reducible refine wl_run rfl (ex_lss _ 5 5 (.tmp 31) (.const (.int .u8 48)) rfl .u8 (c.toNat : Int) 48 rfl rfl _ f1.out) ?_); simp only [Act.put, List.setIfInBounds_toArray, List.set_cons_zero, List.set_cons_succ]) | ((with_reducible refine wl_runG ?hw (ex_gtr _ 5 5 (.tmp 36) (.const (.int .u8 57)) rfl .u8 (c.toNat : Int) 57 rfl rfl _ f2.out) ?_); (case hw => rfl); simp only [Act.put, List.setIfInBounds_toArray, List.set_cons_zero, List.set_cons_succ]))
                  refine ⟨⟨k + 1, n * 10 + (c.toNat - 48), congrArg (Value.int .i64) (by omega), by go_num, by omega, ⟨?_, by rw [hn.out.2, hy.out]⟩, trivial⟩, by simp [intOf]; omega⟩
                  have := hn.out.1
                  rw [Nat.pow_succ]
                  omega
                · have hy := Hd.mk (digstep_no hck.out (.inr (by have := of_decide_eq_true f2.out; omega)) n)
                  go_wp2_with (first | (with_reducible refine wl_run rfl (ex_slen _ 9 _ rfl rfl l rfl) ?_) | (with_reducible refine wl_run rfl (ex_sidx _ 9 _ _ rfl rfl .i64 l k c hck.out _ rfl rfl rfl) ?_) | ((with_reducible refine wl_runG ?hw (ex_sidx _ 9 (.tmp 34) (.tmp 35) rfl rfl .i64 l k c hck.out _ ?hz rfl rfl) ?_); (case hw => rfl); (case hz => rfl)) | ((with_reducible refine wl_run rfl (ex_lss _ 5 5 (.tmp 31) (.const (.int .u8 48)) rfl .u8 (c.toNat : Int) 48 rfl rfl _ f1.out) ?_); simp only [Act.put, List.setIfInBounds_toArray, List.set_cons_zero, List.set_cons_succ]) | ((with_reducible refine wl_runG ?hw (ex_gtr _ 5 5 (.tmp 36) (.const (.int .u8 57)) rfl .u8 (c.toNat : Int) 57 rfl rfl _ f2.out) ?_); (case hw => rfl); simp only [Act.put, List.setIfInBounds_toArray, List.set_cons_zero, List.set_cons_succ]))
                  go_ret
                  rw [hn.out.2, hy.out]
                  exact ⟨rfl, rfl⟩
              · have hy := Hd.mk (digstep_no hck.out (.inl (by have := of_decide_eq_true f1.out; omega)) n)
                go_wp2_with (first | (with_reducible refine wl_run rfl (ex_slen _ 9 _ rfl rfl l rfl) ?_) | (with_reducible refine wl_run rfl (ex_sidx _ 9 _ _ rfl rfl .i64 l k c hck.out _ rfl rfl rfl) ?_) | ((with_reducible refine wl_runG ?hw (ex_sidx _ 9 (.tmp 34) (.tmp 35) rfl rfl .i64 l k c hck.out _ ?hz rfl rfl) ?_); (case hw => rfl); (case hz => rfl)) | ((with_reducible refine wl_run rfl (ex_lss _ 5 5 (.tmp 31) (.const (.int .u8 48)) rfl .u8 (c.toNat : Int) 48 rfl rfl _ f1.out) ?_); simp only [Act.put, List.setIfInBounds_toArray, List.set_cons_zero, List.set_cons_succ]) | ((with_reducible refine wl_runG ?hw (ex_gtr _ 5 5 (.tmp 36) (.const (.int .u8 57)) rfl .u8 (c.toNat : Int) 57 rfl rfl _ f2.out) ?_); (case hw => rfl); simp only [Act.put, List.setIfInBounds_toArray, List.set_cons_zero, List.set_cons_succ]))
                go_ret
                rw [hn.out.2, hy.out]
                exact ⟨rfl, rfl⟩
            · have hk2 : (k : Int) = l.length := by omega
              have hy : Hd (digstep l 0 = n) := ⟨by rw [hn.out.2, List.drop_of_length_le (by omega)]; rfl⟩
              clear hlt
              go_wp2_with (with_reducible refine wl_run rfl (ex_slen _ 9 _ rfl rfl l rfl) ?_)
              go_ret
              rw [hy.out]
              exact ⟨rfl, rfl⟩
        · have hg : Hd (dig l = -1) := ⟨dig_bad (.inr (.inr ⟨by have := of_decide_eq_true e1.out; omega, by rw [hh.out]; exact congrArg some (UInt8.toNat_inj.1 (show c0.toNat = 48 by have := of_decide_eq_true e0.out; omega))⟩))⟩
          rw [hg.out]
          go_enter Tryz.func54, Tryz.ntmps54
          go_wp2_with (first | (with_reducible refine wl_run rfl (ex_slen _ 9 _ rfl rfl l rfl) ?_) | ((with_reducible refine wl_runG ?hw (ex_slen _ 9 _ rfl rfl l rfl) ?_); (case hw => rfl)) | ((with_reducible refine wl_run rfl (ex_eql _ 3 3 (.tmp 6) (.const (.int .i64 0)) rfl .i64 (l.length : Int) 0 rfl rfl _ d0.out) ?_); simp only [Act.put, List.setIfInBounds_toArray, List.set_cons_zero, List.set_cons_succ]) | ((with_reducible refine wl_runG ?hw (ex_gtr _ 3 3 (.tmp 10) (.const (.int .i64 9)) rfl .i64 (l.length : Int) 9 rfl rfl _ e9.out) ?_); (case hw => rfl); simp only [Act.put, List.setIfInBounds_toArray, List.set_cons_zero, List.set_cons_succ]) | ((with_reducible refine wl_runG ?hw (ex_gtr _ 3 3 (.tmp 15) (.const (.int .i64 1)) rfl .i64 (l.length : Int) 1 rfl rfl _ e1.out) ?_); (case hw => rfl); simp only [Act.put, List.setIfInBounds_toArray, List.set_cons_zero, List.set_cons_succ]) | ((with_reducible refine wl_runG ?hw (ex_sidx _ 9 (.tmp 18) (.const (.int .i64 0)) rfl rfl .i64 l 0 c0 hc0.out _ ?hz rfl rfl) ?_); (case hw => rfl); (case hz => rfl)) | ((with_reducible refine wl_runG ?hw (ex_eql _ 5 5 (.tmp 19) (.const (.int .u8 48)) rfl .u8 (c0.toNat : Int) 48 rfl rfl _ e0.out) ?_); (case hw => rfl); simp only [Act.put, List.setIfInBounds_toArray, List.set_cons_zero, List.set_cons_succ]))
          go_ret
          exact ⟨rfl, rfl⟩
    · have hg : Hd (dig l = -1) := ⟨dig_bad (.inr (.inl (by have := of_decide_eq_true e9.out; omega)))⟩
      rw [hg.out]
      go_enter Tryz.func54, Tryz.ntmps54
      go_wp2_with (first | (with_reducible refine wl_run rfl (ex_slen _ 9 _ rfl rfl l rfl) ?_) | ((with_reducible refine wl_runG ?hw (ex_slen _ 9 _ rfl rfl l rfl) ?_); (case hw => rfl)) | ((with_reducible refine wl_run rfl (ex_eql _ 3 3 (.tmp 6) (.const (.int .i64 0)) rfl .i64 (l.length : Int) 0 rfl rfl _ d0.out) ?_); simp only [Act.put, List.setIfInBounds_toArray, List.set_cons_zero, List.set_cons_succ]) | ((with_reducible refine wl_runG ?hw (ex_gtr _ 3 3 (.tmp 10) (.const (.int .i64 9)) rfl .i64 (l.length : Int) 9 rfl rfl _ e9.out) ?_); (case hw => rfl); simp only [Act.put, List.setIfInBounds_toArray, List.set_cons_zero, List.set_cons_succ]) | ((with_reducible refine wl_runG ?hw (ex_gtr _ 3 3 (.tmp 15) (.const (.int .i64 1)) rfl .i64 (l.length : Int) 1 rfl rfl _ e1.out) ?_); (case hw => rfl); simp only [Act.put, List.setIfInBounds_toArray, List.set_cons_zero, List.set_cons_succ]) | ((with_reducible refine wl_runG ?hw (ex_sidx _ 9 (.tmp 18) (.const (.int .i64 0)) rfl rfl .i64 l 0 c0 hc0.out _ ?hz rfl rfl) ?_); (case hw => rfl); (case hz => rfl)) | ((with_reducible refine wl_runG ?hw (ex_eql _ 5 5 (.tmp 19) (.const (.int .u8 48)) rfl .u8 (c0.toNat : Int) 48 rfl rfl _ e0.out) ?_); (case hw => rfl); simp only [Act.put, List.setIfInBounds_toArray, List.set_cons_zero, List.set_cons_succ]))
      go_ret
      exact ⟨rfl, rfl⟩
end Go.Proofs.YtkcechpaeilaeaaGreatDoor
