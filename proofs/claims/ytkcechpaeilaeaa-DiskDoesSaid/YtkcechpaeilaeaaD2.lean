/- The device's small functions that write its fields. -/
import Derived.Test.YtkcechpaeilaeaaD1
namespace Go.Proofs.Ytkcechpaeilaeaa
open Go.RowKit

theorem DM.Ok.spends {M : DM} (h : M.Ok) (hops : M.ops < 1073741824) : (spendsM M).Ok := by
  unfold spendsM
  split
  · exact ⟨h.pos, h.most, h.st, h.ws, h.few, h.left0, h.left1, h.ops0, h.ops1⟩
  · rename_i hc
    have := h.left0; have := h.left1; have := h.ops0
    refine ⟨h.pos, h.most, h.st, h.ws, h.few, ?_, ?_, ?_, ?_⟩
    · cases ha : M.armed
      · simpa [ha] using h.left0
      · simp [ha] at hc ⊢; omega
    · cases ha : M.armed
      · simpa [ha] using h.left1
      · simp [ha] at hc ⊢; omega
    · show 0 ≤ M.ops + 1; omega
    · show M.ops + 1 ≤ _; omega

def armE (M : DM) (n : Int) : Int := if n < 0 then 1 else pwrE M
def armM (M : DM) (n : Int) : DM := if n < 0 ∨ M.off = true then M else { M with armed := true, left := n }
def calmM (M : DM) : DM := if M.off = true then M else { M with armed := false }
section
variable {w : World} {d : Nat} {M : DM} {F : Nat → Prop}
set_option maxHeartbeats 400000 in
theorem spends_at (h : DiskAt w d M F) (hops : M.ops < 1073741824) : Calls Try.prog 32 #[.pointer (some ⟨d, 0, none⟩)] w fun e w' => e = .returned (.bool (spendsB M)) ∧ DiskAt w' d (spendsM M) F ∧ Kp (· = d) w w' := by
  obtain ⟨st, ws, off, armed, left, ops⟩ := M
  have hok' := h.1.spends hops
  obtain ⟨hok, S, cS, m, wv, spare, L, hp⟩ := h
  have hfin : Hd (∀ M' w', M'.Ok → M'.st = st → M'.ws = ws → Blk w' d [.slice (some ⟨S, 0, none⟩) st.length cS, wv, .map (some m), .bool M'.off, .bool M'.armed, .int .i64 M'.left, .int .i64 M'.ops] 61 → Kp (· = d) w w' → DiskAt w' d M' F ∧ Kp (· = d) w w') :=
    Hd.mk fun M' w' hok h1 h2 hb hk => ⟨⟨hok, S, cS, m, wv, spare, L, hp.field hk h1 h2 hb⟩, hk⟩
  have hblk := Hd.mk hp.blk
  have c3 := hp.c3
  have c4 := hp.c4
  have c5 := hp.c5
  have c6 := hp.c6
  have f3 := hp.fr 3
  have f5 := hp.fr 5
  have f6 := hp.fr 6
  have b1 := hok.left0
  have b2 := hok.left1
  have b3 := hok.ops0
  clear hp hok
  dsimp only at *
  cases armed
  · go_enter Try.func32, Try.ntmps32
    go_wp2
    go_ret
    exact ⟨rfl, hfin.out _ _ hok' rfl rfl (hblk.out.set 6 (.int .i64 (ops + 1))) ((Kp.refl _ _).cell _ _)⟩
  · by_cases hl : left = 0
    · subst hl
      go_enter Try.func32, Try.ntmps32
      go_wp2
      go_ret
      exact ⟨rfl, hfin.out _ _ hok' rfl rfl (hblk.out.set 3 (.bool true)) ((Kp.refl _ _).cell _ _)⟩
    · have hl' : (left == 0) = false := by simpa using hl
      have hB : Hd (spendsB ⟨st, ws, off, true, left, ops⟩ = true) := Hd.mk (by simp [spendsB, hl'])
      have hM : Hd (spendsM ⟨st, ws, off, true, left, ops⟩ = ⟨st, ws, off, true, left - 1, ops + 1⟩) := Hd.mk (by simp [spendsM, hl'])
      have b1' : 1 ≤ left := by omega
      clear hl
      go_enter Try.func32, Try.ntmps32
      go_wp2
      go_ret
      refine ⟨ret_bool hB.out.symm, ?_⟩
      rw [hM.out] at hok' ⊢
      exact hfin.out _ _ hok' rfl rfl ((hblk.out.set 5 (.int .i64 (left - 1))).set 6 (.int .i64 (ops + 1))) (((Kp.refl _ _).cell _ _).cell _ _)
set_option maxHeartbeats 400000 in
theorem arm_at (h : DiskAt w d M F) (n : Int) (hn : n ≤ 9223372036854775807) : Calls Try.prog 25 #[.pointer (some ⟨d, 0, none⟩), .int .i64 n] w fun e w' => e = .returned (.int .i64 (armE M n)) ∧ DiskAt w' d (armM M n) F ∧ Kp (· = d) w w' := by
  have hno := Hd.mk (none_at h)
  have hpw := Hd.mk (power_at h)
  obtain ⟨st, ws, off, armed, left, ops⟩ := M
  have hself := Hd.mk h
  by_cases hneg : n < 0
  · clear h
    go_enter Try.func25, Try.ntmps25
    go_wp2_with (first | (go_at_call 33; refine hno.out.mono ?_; rintro e w' ⟨rfl, rfl⟩) | (go_at_call 35; refine hpw.out.mono ?_; rintro e w' ⟨rfl, rfl⟩))
    go_ret
    refine ⟨ret_int (by rw [armE, if_pos hneg]), ?_, Kp.refl _ _⟩
    rw [armM, if_pos (.inl hneg)]; exact hself.out
  · obtain ⟨hok, S, cS, m, wv, spare, L, hp⟩ := h
    have hfin : Hd (∀ M' w', M'.Ok → M'.st = st → M'.ws = ws → Blk w' d [.slice (some ⟨S, 0, none⟩) st.length cS, wv, .map (some m), .bool M'.off, .bool M'.armed, .int .i64 M'.left, .int .i64 M'.ops] 61 → Kp (· = d) w w' → DiskAt w' d M' F ∧ Kp (· = d) w w') :=
      Hd.mk fun M' w' hok h1 h2 hb hk => ⟨⟨hok, S, cS, m, wv, spare, L, hp.field hk h1 h2 hb⟩, hk⟩
    have hok' : DM.Ok ⟨st, ws, off, true, n, ops⟩ := ⟨hok.pos, hok.most, hok.st, hok.ws, hok.few, by show 0 ≤ n; omega, hn, hok.ops0, hok.ops1⟩
    have hblk := Hd.mk hp.blk
    have c4 := hp.c4
    have c5 := hp.c5
    have f4 := hp.fr 4
    have f5 := hp.fr 5
    clear hp hok
    dsimp only at *
    cases off
    · go_enter Try.func25, Try.ntmps25
      go_wp2_with (first | (go_at_call 33; refine hno.out.mono ?_; rintro e w' ⟨rfl, rfl⟩) | (go_at_call 35; refine hpw.out.mono ?_; rintro e w' ⟨rfl, rfl⟩; simp only [pwrE]))
      go_ret
      refine ⟨ret_int (by rw [armE, if_neg (by omega)]; rfl), ?_⟩
      rw [armM, if_neg (by simp; omega)]
      exact hfin.out _ _ hok' rfl rfl ((hblk.out.set 4 (.bool true)).set 5 (.int .i64 n)) (((Kp.refl _ _).cell _ _).cell _ _)
    · go_enter Try.func25, Try.ntmps25
      go_wp2_with (first | (go_at_call 33; refine hno.out.mono ?_; rintro e w' ⟨rfl, rfl⟩) | (go_at_call 35; refine hpw.out.mono ?_; rintro e w' ⟨rfl, rfl⟩; simp only [pwrE]))
      go_ret
      refine ⟨ret_int (by rw [armE, if_neg (by omega)]; rfl), ?_, Kp.refl _ _⟩
      rw [armM, if_pos (.inr rfl)]; exact hself.out
set_option maxHeartbeats 400000 in
theorem calm_at (h : DiskAt w d M F) : Calls Try.prog 26 #[.pointer (some ⟨d, 0, none⟩)] w fun e w' => e = .returned (.int .i64 (pwrE M)) ∧ DiskAt w' d (calmM M) F ∧ Kp (· = d) w w' := by
  have hpw := Hd.mk (power_at h)
  obtain ⟨st, ws, off, armed, left, ops⟩ := M
  have hself := Hd.mk h
  obtain ⟨hok, S, cS, m, wv, spare, L, hp⟩ := h
  have hfin : Hd (∀ M' w', M'.Ok → M'.st = st → M'.ws = ws → Blk w' d [.slice (some ⟨S, 0, none⟩) st.length cS, wv, .map (some m), .bool M'.off, .bool M'.armed, .int .i64 M'.left, .int .i64 M'.ops] 61 → Kp (· = d) w w' → DiskAt w' d M' F ∧ Kp (· = d) w w') :=
    Hd.mk fun M' w' hok h1 h2 hb hk => ⟨⟨hok, S, cS, m, wv, spare, L, hp.field hk h1 h2 hb⟩, hk⟩
  have hok' : DM.Ok ⟨st, ws, off, false, left, ops⟩ := ⟨hok.pos, hok.most, hok.st, hok.ws, hok.few, hok.left0, hok.left1, hok.ops0, hok.ops1⟩
  have hblk := Hd.mk hp.blk
  have c4 := hp.c4
  have f4 := hp.fr 4
  clear hp hok
  dsimp only at *
  cases off
  · go_enter Try.func26, Try.ntmps26
    go_wp2_with (first | (go_at_call 35; refine hpw.out.mono ?_; rintro e w' ⟨rfl, rfl⟩; simp only [pwrE]))
    go_ret
    exact ⟨rfl, hfin.out _ _ hok' rfl rfl (hblk.out.set 4 (.bool false)) ((Kp.refl _ _).cell _ _)⟩
  · go_enter Try.func26, Try.ntmps26
    go_wp2_with (first | (go_at_call 35; refine hpw.out.mono ?_; rintro e w' ⟨rfl, rfl⟩; simp only [pwrE]))
    go_ret
    exact ⟨rfl, hself.out, Kp.refl _ _⟩
set_option maxHeartbeats 400000 in
theorem on_at (h : DiskAt w d M F) : Calls Try.prog 28 #[.pointer (some ⟨d, 0, none⟩)] w fun e w' => e = .returned (.bool (!M.off)) ∧ w = w' := by
  have hpw := Hd.mk (power_at h)
  obtain ⟨st, ws, off, armed, left, ops⟩ := M
  clear h
  cases off
  all_goals
    go_enter Try.func28, Try.ntmps28
    go_wp2_with (first | (go_at_call 35; refine hpw.out.mono ?_; rintro e w' ⟨rfl, rfl⟩; simp only [pwrE]))
    go_ret
    exact ⟨rfl, rfl⟩
set_option maxHeartbeats 400000 in
theorem pages_at (h : DiskAt w d M F) : Calls Try.prog 29 #[.pointer (some ⟨d, 0, none⟩)] w fun e w' => e = .returned (.int .i64 (M.st.length : Int)) ∧ w = w' := by
  have hno := Hd.mk (none_at h)
  obtain ⟨hok, S, cS, m, wv, spare, L, hp⟩ := h
  have c0 := hp.c0
  clear hp hok
  go_enter Try.func29, Try.ntmps29
  go_wp2_with (first | (go_at_call 33; refine hno.out.mono ?_; rintro e w' ⟨rfl, rfl⟩))
  go_ret
  exact ⟨rfl, rfl⟩
theorem ownsRow_len {w : World} {base : Nat} {e : TypeId} {size n : Nat} {v : Value} {xs : List Value} (h : w.ownsRow base e size v n xs) : ∃ A c, v = .slice A n c ∧ n ≤ c := by
  rcases h.2 with ⟨rfl, rfl⟩ | ⟨g, cap, cur, rfl, hg, hh, r, _⟩
  · exact ⟨_, _, rfl, Nat.le_refl _⟩
  · exact ⟨_, _, rfl, r⟩
set_option maxHeartbeats 400000 in
theorem waits_at (h : DiskAt w d M F) : Calls Try.prog 18 #[.pointer (some ⟨d, 0, none⟩)] w fun e w' => e = .returned (.int .i64 (M.ws.length : Int)) ∧ w = w' := by
  have hno := Hd.mk (none_at h)
  obtain ⟨hok, S, cS, m, wv, spare, L, hp⟩ := h
  obtain ⟨A, c, rfl, -⟩ := ownsRow_len hp.waits
  have c1 := hp.c1
  clear hp hok
  go_enter Try.func18, Try.ntmps18
  go_wp2_with (first | (go_at_call 33; refine hno.out.mono ?_; rintro e w' ⟨rfl, rfl⟩))
  go_ret
  exact ⟨rfl, rfl⟩
set_option maxHeartbeats 400000 in
theorem ops_at (h : DiskAt w d M F) : Calls Try.prog 30 #[.pointer (some ⟨d, 0, none⟩)] w fun e w' => e = .returned (.int .i64 M.ops) ∧ w = w' := by
  have hno := Hd.mk (none_at h)
  obtain ⟨hok, S, cS, m, wv, spare, L, hp⟩ := h
  have c6 := hp.c6
  clear hp hok
  go_enter Try.func30, Try.ntmps30
  go_wp2_with (first | (go_at_call 33; refine hno.out.mono ?_; rintro e w' ⟨rfl, rfl⟩))
  go_ret
  exact ⟨rfl, rfl⟩
end
end Go.Proofs.Ytkcechpaeilaeaa
