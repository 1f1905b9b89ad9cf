/- What of Go's library is there; numbers, written. -/
import Derived.Test.YtkcechpaeilaeaaGreatDoorMf
import Derived.Test.YtkcechpaeilaeaaGreatDoorReg3
import Derived.Lib.ItoaLen
namespace Go.Proofs.YtkcechpaeilaeaaGreatDoor
open Go.RowKit
set_option linter.unusedVariables false
set_option linter.unusedSimpArgs false
set_option maxRecDepth 100000

structure Ev (w : World) : Prop where
  ml : ∃ m, w.cell? ⟨0, 0, none⟩ = some (.int .i64 m)
  p10 : Lib.TabIs Tryz.prog w "internal/strconv.uint64pow10" .u64 Lib.pow10Tab
  syn : ∃ tp p, w.var? Tryz.prog "strconv.ErrSyntax" = some #[.iface tp p]
  rng : ∃ tp p, w.var? Tryz.prog "strconv.ErrRange" = some #[.iface tp p]
theorem var_keep {n : String} {cs : Array Value} {w w' : World} (h : w.var? Tryz.prog n = some cs) (hk : Kp (fun _ => False) w w') : w'.var? Tryz.prog n = some cs := by
  unfold World.var? at h ⊢
  cases hg : Tryz.prog.globalNamed n with
  | none => rw [hg] at h; exact h
  | some g =>
    rw [hg] at h
    simp only [Option.bind_some] at h ⊢
    cases hh : w.heap[g]? with
    | none => rw [hh] at h; simp at h
    | some o => rw [hh] at h; rw [hk.keeps hh id]; exact h
theorem Ev.keep {w w' : World} (h : Ev w) (hk : Kp (fun _ => False) w w') : Ev w' := by
  obtain ⟨⟨m, h1⟩, h2, ⟨a, b, h3⟩, ⟨c, d, h4⟩⟩ := h
  exact ⟨⟨m, hk.see h1 id⟩, var_keep h2 hk, ⟨a, b, var_keep h3 hk⟩, ⟨c, d, var_keep h4 hk⟩⟩
theorem kp_grow (w : World) (os : Array Obj) : Kp (fun _ => False) w (Go.Sort.grow w os) := by
  refine ⟨rfl, rfl, rfl, ?_, fun k hk _ => ?_⟩
  · show w.heap.size ≤ (w.heap ++ os).size
    simp
  · show (w.heap ++ os)[k]? = w.heap[k]?
    rw [Array.getElem?_append_left hk]
theorem itoa_at (n : Int) (h0 : -9223372036854775808 ≤ n) (h1 : n ≤ 9223372036854775807) {w : World} (hE : Ev w) : Calls Tryz.prog 41 #[.int .i64 n] w fun e w' => e = .returned (.string ⟨(Lib.itoa n).toArray⟩) ∧ Kp (fun _ => False) w w' := by
  refine (Tryz.strconv_Itoa n h0 h1 w hE.p10).mono ?_
  rintro e w' ⟨rfl, k, os, rfl⟩
  exact ⟨rfl, ((Kp.refl _ w).drewN k).andThen (kp_grow _ _) (fun _ _ h => h)⟩
theorem digs_small {n : Nat} (h : n < 10) : Lib.itoa (n : Int) = [UInt8.ofNat (48 + n)] := by rw [Lib.itoa_nonneg, Lib.decDigits, dif_pos h]
theorem digs_big {n : Nat} (h : ¬ n < 10) : Lib.itoa (n : Int) = Lib.itoa ((n / 10 : Nat) : Int) ++ [UInt8.ofNat (48 + n % 10)] := by rw [Lib.itoa_nonneg, Lib.itoa_nonneg, Lib.decDigits, dif_neg h]
set_option maxHeartbeats 1000000 in
theorem number_at (n : Nat) : n < 1000000000 → ∀ w : World, Calls Tryz.prog 48 #[.int .i64 (n : Int)] w fun e w' => e = .returned (.string ⟨(Lib.itoa (n : Int)).toArray⟩) ∧ Kp (fun _ => False) w w' := by
  induction n using Nat.strongRecOn with
  | _ n ih =>
    intro hn w
    have hi : (n : Int) < 1000000000 := by omega
    by_cases h : n < 10
    · have h2 : (n : Int) < 10 := by omega
      obtain ⟨u, hu⟩ : ∃ u : UInt8, Hd (Lib.itoa (n : Int) = [u] ∧ (48 + (n : Int)) = (u.toNat : Int)) := ⟨_, ⟨digs_small h, by simp; omega⟩⟩
      have hd := Hd.mk hu.out.1
      rw [hd.out]
      have hu2 := Hd.mk hu.out.2
      clear ih h
      go_enter Tryz.func48, Tryz.ntmps48
      go_wp2_with (first | ((with_reducible refine wl_lit1 rfl (.tmp 7) rfl (48 + (n : Int)) rfl ?_); intro v1 w1 hv1 hk1; rw [hu2.out] at hv1; have hv1 : Hd (Bs w1 v1 (ints [u])) := ⟨hv1⟩; have hk1 := Hd.mk hk1) | (with_reducible refine wl_run rfl (ex_tostr _ 22 9 5 (.tmp 8) rfl Tryz.underlying22 Tryz.underlying5 Tryz.underlying9 v1 [u] hv1.out rfl) ?_))
      go_ret
      exact ⟨rfl, hk1.out⟩
    · have h2 : (10 : Int) ≤ n := by omega
      obtain ⟨u, hu⟩ : ∃ u : UInt8, Hd (Lib.itoa (n : Int) = Lib.itoa ((n / 10 : Nat) : Int) ++ [u] ∧ (48 + ((n % 10 : Nat) : Int)) = (u.toNat : Int)) := ⟨_, ⟨digs_big h, by simp; omega⟩⟩
      have hd := Hd.mk hu.out.1
      rw [hd.out]
      have hu2 := Hd.mk hu.out.2
      have ih := Hd.mk (ih (n / 10) (by omega) (by omega))
      have hb : Hd (decide ((n : Int) < 10) = false) := ⟨decide_eq_false (by omega)⟩
      have hlen : Hd ((Lib.itoa ((n / 10 : Nat) : Int)).length ≤ 21) := ⟨Lib.itoa_length_le _ (by omega) (by omega)⟩
      have hu3 : Hd (((48 + n % 10 : Nat) : Int) = (u.toNat : Int)) := ⟨by have := hu2.out; omega⟩
      clear h h2 hi
      go_enter Tryz.func48, Tryz.ntmps48
      go_wp2_with ((with_reducible refine wl_run rfl (ex_lss _ 3 3 (.tmp 3) (.const (.int .i64 10)) rfl .i64 (n : Int) 10 rfl rfl false hb.out) ?_); simp only [Act.put, List.setIfInBounds_toArray, List.set_cons_zero, List.set_cons_succ])
      have hS : Hd ((fun W : World => True) w.drew) := ⟨trivial⟩
      refine rn_begin (fun W : World => True) (List.range 11) (by kernel_rfl) ?_
      refine rn_take (i := 0) (dst := some 10) (v := .int .i64 ((n : Nat) : Int)) rfl (by kernel_rfl) (fun _ _ _ h => h) rfl rfl (fun W hW => ex_move W _ _ rfl rfl) hS.out ?_
      simp only [Act.put, List.setIfInBounds_toArray, List.set_cons_zero, List.set_cons_succ]
      refine rn_take (i := 1) (dst := some 11) (v := .int .i64 ((n / 10 : Nat) : Int)) rfl (by kernel_rfl) (fun _ _ _ h => h) rfl rfl (fun W hW => ex_quoK W 3 _ _ _ rfl n 10 (by decide) (by omega) rfl rfl) hS.out ?_
      simp only [Act.put, List.setIfInBounds_toArray, List.set_cons_zero, List.set_cons_succ]
      refine rn_take (i := 3) (dst := some 13) (v := .int .i64 ((n : Nat) : Int)) rfl (by kernel_rfl) (fun _ _ _ h => h) rfl rfl (fun W hW => ex_move W _ _ rfl rfl) hS.out ?_
      simp only [Act.put, List.setIfInBounds_toArray, List.set_cons_zero, List.set_cons_succ]
      refine rn_take (i := 4) (dst := some 14) (v := .int .i64 ((n % 10 : Nat) : Int)) rfl (by kernel_rfl) (fun _ _ _ h => h) rfl rfl (fun W hW => ex_remK W 3 _ _ _ rfl n 10 (by decide) (by omega) rfl rfl) hS.out ?_
      simp only [Act.put, List.setIfInBounds_toArray, List.set_cons_zero, List.set_cons_succ]
      refine rn_take (i := 5) (dst := some 15) (v := .int .i64 ((48 + n % 10 : Nat) : Int)) rfl (by kernel_rfl) (fun _ _ _ h => h) rfl rfl (fun W hW => er_add W 3 _ _ _ rfl 48 (n % 10) (48 + n % 10) (by first | rfl | omega) rfl rfl (by omega)) hS.out ?_
      simp only [Act.put, List.setIfInBounds_toArray, List.set_cons_zero, List.set_cons_succ]
      refine rn_take (i := 6) (dst := some 16) (v := .int .u8 ((48 + n % 10 : Nat) : Int)) rfl (by kernel_rfl) (fun _ _ _ h => h) rfl rfl (fun W hW => ex_tou8 W 3 5 _ rfl (by kernel_rfl) Tryz.underlying5 .i64 (48 + n % 10) (by omega) rfl) hS.out ?_
      simp only [Act.put, List.setIfInBounds_toArray, List.set_cons_zero, List.set_cons_succ]
      clear hS
      refine rn_two (i := 2) (j := 7) (di := some 12) (dj := some 17) rfl rfl (by kernel_rfl) rfl rfl rfl rfl (fun K hK => ?_) (fun K hK => ?_)
      · refine ow_call 48 _ _ rfl Tryz.func48 (by kernel_rfl) (by kernel_rfl) [.int .i64 ((n / 10 : Nat) : Int)] rfl (ih.out _) ?_
        rintro e w1 ⟨rfl, hkw1⟩
        refine ⟨_, rfl, hK _ _ (fun _ => trivial) ?_⟩
        have Kw1 := Hd.mk hkw1
        clear hK K hkw1
        simp only [Act.put, List.setIfInBounds_toArray, List.set_cons_zero, List.set_cons_succ]
        refine rn_one (i := 7) (dst := some 17) rfl (by kernel_rfl) rfl rfl (fun K hK => ?_)
        refine ow_lit1 _ rfl ((48 + n % 10 : Nat) : Int) rfl ?_
        intro v1 w2 hv1 hkw2
        refine hK _ _ (fun _ => trivial) ?_
        rw [hu3.out] at hv1
        have Bw2 : Hd (Bs w2 v1 (ints [u])) := ⟨hv1⟩
        have Kw2 := Hd.mk hkw2
        clear hK K hkw2 hv1
        simp only [Act.put, List.setIfInBounds_toArray, List.set_cons_zero, List.set_cons_succ]
        refine rn_one (i := 8) (dst := some 18) rfl (by kernel_rfl) rfl rfl (fun K hK => ?_)
        refine ow_run (ex_tostr _ 22 9 5 _ rfl Tryz.underlying22 Tryz.underlying5 Tryz.underlying9 v1 [u] (Bw2.out) rfl) ?_
        refine hK _ _ (fun _ => trivial) ?_
        clear hK K
        simp only [Act.put, List.setIfInBounds_toArray, List.set_cons_zero, List.set_cons_succ]
        have hS : Hd ((fun W : World => True) w2) := ⟨trivial⟩
        refine rn_take (i := 9) (dst := some 19) (v := .string ⟨(Lib.itoa ((n / 10 : Nat) : Int) ++ [u]).toArray⟩) rfl (by kernel_rfl) (fun _ _ _ h => h) rfl rfl (fun W hW => ex_scat W 9 _ _ _ rfl (Lib.itoa ((n / 10 : Nat) : Int)) [u] (by have := hlen.out; simp only [List.length_cons, List.length_nil]; omega) rfl rfl) hS.out ?_
        simp only [Act.put, List.setIfInBounds_toArray, List.set_cons_zero, List.set_cons_succ]
        refine rn_take (i := 10) (dst := some 2) (v := .string ⟨(Lib.itoa ((n / 10 : Nat) : Int) ++ [u]).toArray⟩) rfl (by kernel_rfl) (fun _ _ _ h => h) rfl rfl (fun W hW => ex_assign W _ _ rfl rfl) hS.out ?_
        simp only [Act.put, List.setIfInBounds_toArray, List.set_cons_zero, List.set_cons_succ]
        refine rn_done (by kernel_rfl) ?_ _
        go_wp2_with fail
        go_ret
        exact ⟨rfl, (((Kp.refl _ w).drew).andThen Kw1.out (fun _ _ h => h)).andThen Kw2.out (fun _ _ h => h)⟩
      · refine ow_lit1 _ rfl ((48 + n % 10 : Nat) : Int) rfl ?_
        intro v1 w1 hv1 hkw1
        refine hK _ _ (fun _ => trivial) ?_
        rw [hu3.out] at hv1
        have Bw1 : Hd (Bs w1 v1 (ints [u])) := ⟨hv1⟩
        have Kw1 := Hd.mk hkw1
        clear hK K hkw1 hv1
        simp only [Act.put, List.setIfInBounds_toArray, List.set_cons_zero, List.set_cons_succ]
        refine rn_two (i := 2) (j := 8) (di := some 12) (dj := some 18) rfl rfl (by kernel_rfl) rfl rfl rfl rfl (fun K hK => ?_) (fun K hK => ?_)
        · refine ow_call 48 _ _ rfl Tryz.func48 (by kernel_rfl) (by kernel_rfl) [.int .i64 ((n / 10 : Nat) : Int)] rfl (ih.out _) ?_
          rintro e w2 ⟨rfl, hkw2⟩
          refine ⟨_, rfl, hK _ _ (fun _ => trivial) ?_⟩
          have Kw2 := Hd.mk hkw2
          clear hK K hkw2
          simp only [Act.put, List.setIfInBounds_toArray, List.set_cons_zero, List.set_cons_succ]
          refine rn_one (i := 8) (dst := some 18) rfl (by kernel_rfl) rfl rfl (fun K hK => ?_)
          refine ow_run (ex_tostr _ 22 9 5 _ rfl Tryz.underlying22 Tryz.underlying5 Tryz.underlying9 v1 [u] (Bs.keep Bw1.out (fun b hb _ => Kw2.out.below.block b hb)) rfl) ?_
          refine hK _ _ (fun _ => trivial) ?_
          clear hK K
          simp only [Act.put, List.setIfInBounds_toArray, List.set_cons_zero, List.set_cons_succ]
          have hS : Hd ((fun W : World => True) w2) := ⟨trivial⟩
          refine rn_take (i := 9) (dst := some 19) (v := .string ⟨(Lib.itoa ((n / 10 : Nat) : Int) ++ [u]).toArray⟩) rfl (by kernel_rfl) (fun _ _ _ h => h) rfl rfl (fun W hW => ex_scat W 9 _ _ _ rfl (Lib.itoa ((n / 10 : Nat) : Int)) [u] (by have := hlen.out; simp only [List.length_cons, List.length_nil]; omega) rfl rfl) hS.out ?_
          simp only [Act.put, List.setIfInBounds_toArray, List.set_cons_zero, List.set_cons_succ]
          refine rn_take (i := 10) (dst := some 2) (v := .string ⟨(Lib.itoa ((n / 10 : Nat) : Int) ++ [u]).toArray⟩) rfl (by kernel_rfl) (fun _ _ _ h => h) rfl rfl (fun W hW => ex_assign W _ _ rfl rfl) hS.out ?_
          simp only [Act.put, List.setIfInBounds_toArray, List.set_cons_zero, List.set_cons_succ]
          refine rn_done (by kernel_rfl) ?_ _
          go_wp2_with fail
          go_ret
          exact ⟨rfl, (((Kp.refl _ w).drew).andThen Kw1.out (fun _ _ h => h)).andThen Kw2.out (fun _ _ h => h)⟩
        · refine ow_run (ex_tostr _ 22 9 5 _ rfl Tryz.underlying22 Tryz.underlying5 Tryz.underlying9 v1 [u] (Bw1.out) rfl) ?_
          refine hK _ _ (fun _ => trivial) ?_
          clear hK K
          simp only [Act.put, List.setIfInBounds_toArray, List.set_cons_zero, List.set_cons_succ]
          refine rn_one (i := 2) (dst := some 12) rfl (by kernel_rfl) rfl rfl (fun K hK => ?_)
          refine ow_call 48 _ _ rfl Tryz.func48 (by kernel_rfl) (by kernel_rfl) [.int .i64 ((n / 10 : Nat) : Int)] rfl (ih.out _) ?_
          rintro e w2 ⟨rfl, hkw2⟩
          refine ⟨_, rfl, hK _ _ (fun _ => trivial) ?_⟩
          have Kw2 := Hd.mk hkw2
          clear hK K hkw2
          simp only [Act.put, List.setIfInBounds_toArray, List.set_cons_zero, List.set_cons_succ]
          have hS : Hd ((fun W : World => True) w2) := ⟨trivial⟩
          refine rn_take (i := 9) (dst := some 19) (v := .string ⟨(Lib.itoa ((n / 10 : Nat) : Int) ++ [u]).toArray⟩) rfl (by kernel_rfl) (fun _ _ _ h => h) rfl rfl (fun W hW => ex_scat W 9 _ _ _ rfl (Lib.itoa ((n / 10 : Nat) : Int)) [u] (by have := hlen.out; simp only [List.length_cons, List.length_nil]; omega) rfl rfl) hS.out ?_
          simp only [Act.put, List.setIfInBounds_toArray, List.set_cons_zero, List.set_cons_succ]
          refine rn_take (i := 10) (dst := some 2) (v := .string ⟨(Lib.itoa ((n / 10 : Nat) : Int) ++ [u]).toArray⟩) rfl (by kernel_rfl) (fun _ _ _ h => h) rfl rfl (fun W hW => ex_assign W _ _ rfl rfl) hS.out ?_
          simp only [Act.put, List.setIfInBounds_toArray, List.set_cons_zero, List.set_cons_succ]
          refine rn_done (by kernel_rfl) ?_ _
          go_wp2_with fail
          go_ret
          exact ⟨rfl, (((Kp.refl _ w).drew).andThen Kw1.out (fun _ _ h => h)).andThen Kw2.out (fun _ _ h => h)⟩
end Go.Proofs.YtkcechpaeilaeaaGreatDoor
