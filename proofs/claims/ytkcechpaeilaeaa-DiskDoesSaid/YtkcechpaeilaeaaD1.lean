/- The device's small functions: what each comes to. -/
import Derived.Test.YtkcechpaeilaeaaDm
namespace Go.Proofs.Ytkcechpaeilaeaa
open Go.RowKit

def pwrE (M : DM) : Int := if M.off then 5 else 0
def atE (M : DM) (p size : Int) : Int := if p < 0 ∨ (M.st.length : Int) ≤ p ∨ size ≠ 256 then 1 else pwrE M
def spendsB (M : DM) : Bool := !(M.armed && M.left == 0)
def spendsM (M : DM) : DM := if M.armed && M.left == 0 then { M with off := true } else { M with left := if M.armed then M.left - 1 else M.left, ops := M.ops + 1 }

section
variable {w : World} {d : Nat} {M : DM} {F : Nat → Prop}

set_option maxHeartbeats 400000 in
theorem none_nil (w : World) : Calls Try.prog 33 #[.pointer none] w fun e w' => e = .returned (.bool true) ∧ w = w' := by
  go_enter Try.func33, Try.ntmps33
  go_wp2
  go_ret
  exact ⟨rfl, rfl⟩
set_option maxHeartbeats 400000 in
theorem none_cell (d : Nat) (w : World) (s : Option Addr) (n c : Nat) (h : w.cell? ⟨d, 0, none⟩ = some (.slice s n c)) (hn : 0 < n) : Calls Try.prog 33 #[.pointer (some ⟨d, 0, none⟩)] w fun e w' => e = .returned (.bool false) ∧ w = w' := by
  have h0 : ((n : Int) == 0) = false := by simp; omega
  go_enter Try.func33, Try.ntmps33
  go_wp2
  go_ret
  exact ⟨rfl, rfl⟩
theorem none_at (h : DiskAt w d M F) : Calls Try.prog 33 #[.pointer (some ⟨d, 0, none⟩)] w fun e w' => e = .returned (.bool false) ∧ w = w' := by
  obtain ⟨hok, S, cS, m, wv, spare, L, hp⟩ := h
  exact none_cell d w _ _ _ hp.c0 hok.pos
set_option maxHeartbeats 400000 in
theorem power_at (h : DiskAt w d M F) : Calls Try.prog 35 #[.pointer (some ⟨d, 0, none⟩)] w fun e w' => e = .returned (.int .i64 (pwrE M)) ∧ w = w' := by
  have hno := Hd.mk (none_at h)
  obtain ⟨hok, S, cS, m, wv, spare, L, hp⟩ := h
  have c3 := hp.c3
  have hE : Hd (pwrE M = if M.off then 5 else 0) := Hd.mk rfl
  clear hp hok
  generalize M.off = off at c3 hE
  cases off
  all_goals
    go_enter Try.func35, Try.ntmps35
    go_wp2_with (go_at_call 33; refine hno.out.mono ?_; rintro e w' ⟨rfl, rfl⟩)
    go_ret
    exact ⟨ret_int (by rw [hE.out]; rfl), rfl⟩
set_option maxHeartbeats 400000 in
theorem at_at (h : DiskAt w d M F) (p size : Int) : Calls Try.prog 31 #[.pointer (some ⟨d, 0, none⟩), .int .i64 p, .int .i64 size] w fun e w' => e = .returned (.int .i64 (atE M p size)) ∧ w = w' := by
  have hno := Hd.mk (none_at h)
  have hpw := Hd.mk (power_at h)
  obtain ⟨hok, S, cS, m, wv, spare, L, hp⟩ := h
  have c0 := hp.c0
  have hE : Hd (atE M p size = if p < 0 ∨ (M.st.length : Int) ≤ p ∨ size ≠ 256 then 1 else pwrE M) := Hd.mk rfl
  clear hp hok
  generalize M.st.length = n at c0 hE
  generalize pwrE M = pw at hE hpw
  by_cases e1 : p < 0
  · go_enter Try.func31, Try.ntmps31
    go_wp2_with (first | (go_at_call 33; refine hno.out.mono ?_; rintro e w' ⟨rfl, rfl⟩) | (go_at_call 35; refine hpw.out.mono ?_; rintro e w' ⟨rfl, rfl⟩))
    go_ret
    exact ⟨ret_int (by rw [hE.out, if_pos (.inl e1)]), rfl⟩
  · have e1' : decide (p < 0) = false := by simpa using e1
    by_cases e2 : (n : Int) ≤ p
    · have e2' : decide ((n : Int) ≤ p) = true := by simpa using e2
      go_enter Try.func31, Try.ntmps31
      go_wp2_with (first | (go_at_call 33; refine hno.out.mono ?_; rintro e w' ⟨rfl, rfl⟩) | (go_at_call 35; refine hpw.out.mono ?_; rintro e w' ⟨rfl, rfl⟩))
      all_goals go_ret
      all_goals exact ⟨ret_int (by rw [hE.out, if_pos (.inr (.inl e2))]), rfl⟩
    · have e2' : decide ((n : Int) ≤ p) = false := by simpa using e2
      by_cases e3 : size = 256
      · subst e3
        go_enter Try.func31, Try.ntmps31
        go_wp2_with (first | (go_at_call 33; refine hno.out.mono ?_; rintro e w' ⟨rfl, rfl⟩) | (go_at_call 35; refine hpw.out.mono ?_; rintro e w' ⟨rfl, rfl⟩))
        all_goals go_ret
        all_goals exact ⟨ret_int (by rw [hE.out, if_neg (by simp; omega)]), rfl⟩
      · have e3' : (size != 256) = true := by simpa using e3
        go_enter Try.func31, Try.ntmps31
        go_wp2_with (first | (go_at_call 33; refine hno.out.mono ?_; rintro e w' ⟨rfl, rfl⟩) | (go_at_call 35; refine hpw.out.mono ?_; rintro e w' ⟨rfl, rfl⟩))
        all_goals go_ret
        all_goals exact ⟨ret_int (by rw [hE.out, if_pos (.inr (.inr e3))]), rfl⟩
end
end Go.Proofs.Ytkcechpaeilaeaa
