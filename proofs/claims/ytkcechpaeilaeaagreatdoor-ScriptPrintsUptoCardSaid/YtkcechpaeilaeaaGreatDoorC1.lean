/- A line's first word, and what is behind the blank; numbers, read. -/
import Derived.Test.YtkcechpaeilaeaaGreatDoorE2
namespace Go.Proofs.YtkcechpaeilaeaaGreatDoor
open Go.RowKit
set_option linter.unusedVariables false
set_option linter.unusedSimpArgs false
set_option maxRecDepth 100000

theorem wd_split (l : List UInt8) : ((32 : UInt8) ∉ l ∧ wd l = l ∧ rs l = []) ∨ ((32 : UInt8) ∉ wd l ∧ l = wd l ++ 32 :: rs l) := by
  induction l with
  | nil => exact .inl ⟨by simp, rfl, rfl⟩
  | cons c r ih =>
    by_cases hc : c = 32
    · subst hc
      exact .inr ⟨by simp [wd], by simp [wd, rs]⟩
    · have e1 : wd (c :: r) = c :: wd r := by
        unfold wd
        rw [List.takeWhile_cons, if_pos (by simpa using hc)]
      have e2 : rs (c :: r) = rs r := by
        unfold rs
        rw [List.dropWhile_cons, if_pos (by simpa using hc)]
      rcases ih with ⟨h1, h2, h3⟩ | ⟨h1, h2⟩
      · refine .inl ⟨by simp [h1, Ne.symm hc], ?_, ?_⟩
        · rw [e1, h2]
        · rw [e2, h3]
      · refine .inr ⟨?_, ?_⟩
        · rw [e1]
          simp [h1, Ne.symm hc]
        · rw [e1, e2, List.cons_append, ← h2]
theorem cut_blank (l : List UInt8) : (Lib.cut l [32]).1 = wd l ∧ (Lib.cut l [32]).2.1 = rs l := by
  rcases wd_split l with ⟨h1, h2, h3⟩ | ⟨h1, h2⟩
  · have := index_no_blank l h1
    unfold Lib.cut
    rw [this, if_neg (by omega), h2, h3]
    exact ⟨rfl, rfl⟩
  · have := index_blank (wd l) (rs l) h1
    rw [← h2] at this
    unfold Lib.cut
    rw [this, if_pos (by omega)]
    show l.take _ = _ ∧ l.drop _ = _
    generalize wd l = x at *
    generalize rs l = y at *
    subst h2
    simp only [Int.toNat_natCast, List.take_left, List.length_cons, List.length_nil, true_and]
    rw [List.drop_append]
    simp
theorem wd_length (l : List UInt8) : (wd l).length ≤ l.length := (List.takeWhile_sublist _).length_le
theorem rs_length (l : List UInt8) : (rs l).length ≤ l.length := by
  unfold rs
  rw [List.length_tail]
  have : (l.dropWhile (· != 32)).length ≤ l.length := (List.dropWhile_sublist _).length_le
  omega
set_option maxHeartbeats 1000000 in
theorem cut_at {l : List UInt8} (hl : l.length < 4294967281) {w : World} (hE : Ev w) : Calls Tryz.prog 50 #[.string ⟨l.toArray⟩] w fun e w' => e = .returned (.tuple #[.string ⟨(wd l).toArray⟩, .string ⟨(rs l).toArray⟩]) ∧ Kp (fun _ => False) w w' := by
  obtain ⟨m, hm⟩ := hE.ml
  have hc : Hd (Calls Tryz.prog 64 #[.string ⟨l.toArray⟩, .string ⟨#[32]⟩] w fun e w' => (∃ b, e = .returned (.tuple #[.string ⟨(wd l).toArray⟩, .string ⟨(rs l).toArray⟩, .bool b])) ∧ Kp (fun _ => False) w w') := ⟨by
    refine (Tryz.strings_Cut ⟨l.toArray⟩ ⟨#[32]⟩ m w (by rw [sz]; exact hl) hm).mono ?_
    rintro e w' ⟨rfl, n, rfl⟩
    obtain ⟨h1, h2⟩ := cut_blank l
    refine ⟨⟨(Lib.cut l [32]).2.2, ?_⟩, (Kp.refl _ w).drewN n⟩
    rw [← h1, ← h2]⟩
  clear hE hm hl
  go_enter Tryz.func50, Tryz.ntmps50
  go_wp2_with (go_at_call 64; refine hc.out.mono ?_; rintro e w1 ⟨⟨b, rfl⟩, hk1⟩; have hk1 := Hd.mk hk1; dsimp only)
  go_ret2
  exact ⟨rfl, hk1.out⟩
/-- Whether a word is a number. -/
def okS (s : List UInt8) : Bool := match Lib.atoiAll s with
  | .ok v => (Lib.itoa v == s) && decide (0 ≤ v)
  | _ => false
theorem atoi_range {s : List UInt8} {v : Int} (h : Lib.atoiAll s = .ok v) : -9223372036854775808 ≤ v ∧ v ≤ 9223372036854775807 := by
  unfold Lib.atoiAll at h
  split at h
  · cases h
  · rename_i c r
    simp only at h
    split at h
    · cases h
    · cases h
    · split at h
      · cases h
      · split at h
        · cases h
        · rename_i h1 h2
          injection h with h
          split at h <;> rename_i h3
          · have : ¬ (9223372036854775808 < _) := fun e => h2 ⟨h3, e⟩
            omega
          · have : ¬ (9223372036854775808 ≤ _) := fun e => h1 ⟨h3, e⟩
            omega
theorem kp_bytesWorld (w : World) (t : ByteArray) : Kp (fun _ => False) w (Lib.bytesWorld w 5 t) := by
  refine ⟨rfl, rfl, rfl, ?_, fun k hk _ => Lib.bytesWorld_at_old w 5 t k hk⟩
  rw [Lib.bytesWorld_size]
  omega
theorem atoi_yes (s : List UInt8) (hs : s.length < 4294967281) {v : Int} (h : Lib.atoiAll s = .ok v) (w : World) : Calls Tryz.prog 83 #[.string ⟨s.toArray⟩] w fun e w' => e = .returned (.tuple #[.int .i64 v, .nilIface]) ∧ Kp (fun _ => False) w w' := by
  refine (Tryz.strconv_Atoi_ok ⟨s.toArray⟩ (by rw [sz]; omega) v h w).mono ?_
  rintro e w' ⟨rfl, hw⟩
  refine ⟨rfl, ?_⟩
  rcases hw with rfl | ⟨t, rfl⟩
  · exact Kp.refl _ _
  · exact kp_bytesWorld w t
theorem atoi_no (s : List UInt8) (hs : s.length < 4294967281) (h : ∀ v, Lib.atoiAll s ≠ .ok v) {w : World} (hE : Ev w) : Calls Tryz.prog 83 #[.string ⟨s.toArray⟩] w fun e w' => (∃ pt, e = .returned (.tuple #[.int .i64 (num s), .iface 156 (.pointer (some pt))])) ∧ Kp (fun _ => False) w w' := by
  cases h2 : Lib.atoiAll s with
  | ok v => exact absurd h2 (h v)
  | range =>
    obtain ⟨tp, p, hv⟩ := hE.rng
    refine (Tryz.strconv_Atoi_range_var ⟨s.toArray⟩ (by rw [sz]; omega) h2 tp p w hv).mono ?_
    rintro e w' ⟨N, rfl, _, _, hb⟩
    exact ⟨⟨_, by rw [num, h2]⟩, Kp.of_below hb _⟩
  | _ =>
    obtain ⟨tp, p, hv⟩ := hE.syn
    refine (Tryz.strconv_Atoi_syntax_var ⟨s.toArray⟩ (by rw [sz]; omega) h2 tp p w hv).mono ?_
    rintro e w' ⟨N, rfl, _, _, hb⟩
    exact ⟨⟨_, by rw [num, h2]⟩, Kp.of_below hb _⟩
set_option maxHeartbeats 1000000 in
theorem num_at (s : List UInt8) (hs : s.length < 4294967281) {w : World} (hE : Ev w) : Calls Tryz.prog 51 #[.string ⟨s.toArray⟩] w fun e w' => e = .returned (.tuple #[.int .i64 (num s), .bool (okS s)]) ∧ Kp (fun _ => False) w w' := by
  by_cases h : ∃ v, Lib.atoiAll s = .ok v
  · obtain ⟨v, h⟩ := h
    have hc := Hd.mk (atoi_yes s hs h w)
    have hr := atoi_range h
    have e1 : num s = v := by rw [num, h]
    have e2 : okS s = ((Lib.itoa v == s) && decide (0 ≤ v)) := by rw [okS, h]
    rw [e1, e2]
    have hE := Hd.mk hE
    have hr := Hd.mk hr
    clear hs h e1 e2
    obtain ⟨b, hb⟩ : ∃ b, Hd ((Lib.itoa v == s) = b) := ⟨_, ⟨rfl⟩⟩
    rw [hb.out]
    cases b
    all_goals go_enter Tryz.func51, Tryz.ntmps51
    all_goals go_wp2_with (first | (go_at_call 83; refine hc.out.mono ?_; rintro e w1 ⟨rfl, hk1⟩; have hE1 := Hd.mk (hE.out.keep hk1); have hk1 := Hd.mk hk1; dsimp only) | (go_at_call 41; refine (itoa_at v hr.out.1 hr.out.2 hE1.out).mono ?_; rintro e w2 ⟨rfl, hk2⟩; have hk2 := Hd.mk hk2; dsimp only) | ((with_reducible refine wl_runG ?hw (ex_seql _ 9 9 (.tmp 16) (.tmp 17) rfl (Lib.itoa v) s _ hb.out rfl rfl) ?_); (case hw => rfl); simp only [Act.put, List.setIfInBounds_toArray, List.set_cons_zero, List.set_cons_succ]))
    · go_ret2
      exact ⟨rfl, hk1.out.andThen hk2.out (fun _ _ h => h)⟩
    · go_ret2
      exact ⟨rfl, hk1.out.andThen hk2.out (fun _ _ h => h)⟩
  · have hc := Hd.mk (atoi_no s hs (fun v hv => h ⟨v, hv⟩) hE)
    have e2 : okS s = false := by
      unfold okS
      cases h2 : Lib.atoiAll s with
      | ok v => exact absurd ⟨v, h2⟩ h
      | _ => rfl
    rw [e2]
    clear h hs hE e2
    go_enter Tryz.func51, Tryz.ntmps51
    go_wp2_with (go_at_call 83; refine hc.out.mono ?_; rintro e w1 ⟨⟨pt, rfl⟩, hk1⟩; have hk1 := Hd.mk hk1; dsimp only)
    go_ret2
    exact ⟨rfl, hk1.out⟩
end Go.Proofs.YtkcechpaeilaeaaGreatDoor
