/- Quote, as the program has it. -/
import Derived.Test.YtkcechpaeilaeaaGreatDoorTa
import Derived.Test.YtkcechpaeilaeaaGreatDoorB1
namespace Go.Proofs.YtkcechpaeilaeaaGreatDoor
open Go.RowKit
set_option linter.unusedVariables false
set_option linter.unusedSimpArgs false
set_option maxRecDepth 100000

theorem wbyte_n {w : World} {b : Nat} {l : List UInt8} (h : Bd w b l) (n : Int) (c : UInt8) (hn : n = (c.toNat : Int)) (hl : l.length < 1000000000) : Calls Tryz.prog 59 #[.pointer (some ⟨b, 0, none⟩), .int .u8 n] w fun e w' => e = .returned .nilIface ∧ Bd w' b (l ++ [c]) ∧ Wr b w w' := by
  subst hn; exact wbyte_at h c hl
theorem hexs_at (n : Nat) (h : n < 16) : hexl[n]? = some (hxd n).toUInt8 := by
  have : ∀ n, n < 16 → hexl[n]? = some (hxd n).toUInt8 := by decide
  exact this n h
theorem Bs.frame {w wr : World} {v : Value} {l : List Int} (h : Bs w v l) (hb : Below w.heap.size w wr) : Bs wr v l := h.keep (fun b hb' _ => hb.block b hb')
set_option maxHeartbeats 1000000 in
theorem quote_at {w : World} {v : Value} {l : List UInt8} (h : Bs w v (ints l)) (bl : Bool) (hl : l.length < 100000000) : Calls Tryz.prog 17 #[v, .bool bl] w fun e w' => e = .returned (.string ⟨(quote l bl).toArray⟩) ∧ Kp (fun _ => False) w w' := by
  have H := Hd.mk h
  obtain ⟨A, cp, rfl, hc, hr⟩ := h
  rw [ints_length] at hc H ⊢
  have hL : (l.length : Int) < 100000000 := by omega
  clear hr hc hl
  go_enter Tryz.func17, Tryz.ntmps17
  go_wp2_with fail
  go_loopw [10] (fun v10 wr => ∃ k : Nat, v10 = .int .i64 k ∧ (k : Int) ≤ (l.length : Int) ∧ Hd (Bd wr w.heap.size (quote (l.take k) bl) ∧ Below w.heap.size w wr)) (fun v10 _ => l.length - (intOf v10).toNat)
  case atStart => exact ⟨0, rfl, by omega, ⟨by simpa [quote] using Bd.fresh w, (Below.refl _ w).alloc (Nat.le_refl _) _⟩⟩
  case round =>
    obtain ⟨k, rfl, hk, HH⟩ := hrel
    by_cases hlt : k < l.length
    · have hlt2 : (k : Int) < (l.length : Int) := by omega
      have hql : Hd ((quote (l.take k) bl).length + 10 < 1000000000) := ⟨by
        have := quote_length (l.take k) bl
        have := List.length_take_le k l
        omega⟩
      have hq := Hd.mk (quote_take hlt bl)
      obtain ⟨A', cp', hA, hc', hr⟩ := H.out.frame HH.out.2
      injection hA with hA1 hA2 hA3
      subst hA1 hA3
      clear hA2 hc'
      obtain ⟨b, o, rfl, hc1⟩ : ∃ b o, A = some ⟨b, o, none⟩ ∧ wr.cell? ⟨b, o + k, none⟩ = some (.int .u8 (l[k].toNat : Int)) := by
        rcases hr with e | ⟨b, o, e, h⟩
        · have : (ints l).length = 0 := by rw [e]; rfl
          rw [ints_length] at this
          omega
        · exact ⟨b, o, e, h k _ (ints_get l k hlt)⟩
      generalize l[k] = c at *
      clear hr
      cases hp : pln c.toNat bl
      · have hp := Hd.mk hp
        have hc256 := c.toNat_lt
        have hc2 : Hd (c.toNat < 256) := ⟨hc256⟩
        obtain ⟨x, h16, hx⟩ : ∃ x, Hd (hexl[c.toNat / 16]? = some x) ∧ Hd (x = (hxd (c.toNat / 16)).toUInt8) := ⟨_, ⟨hexs_at (c.toNat / 16) (by omega)⟩, ⟨rfl⟩⟩
        obtain ⟨y, h15, hy⟩ : ∃ x, Hd (hexl[c.toNat % 16]? = some x) ∧ Hd (x = (hxd (c.toNat % 16)).toUInt8) := ⟨_, ⟨hexs_at (c.toNat % 16) (by omega)⟩, ⟨rfl⟩⟩
        clear hc256
        go_wp2_with (first | (go_at_call 55; with_reducible refine (plain_at c.toNat bl _).mono ?_; rw [hp.out]; rintro e w' ⟨rfl, rfl⟩; dsimp only) | (go_at_call 59; with_reducible refine (wbyte_n HH.out.1 92 92 rfl (by have := hql.out; omega)).mono ?_; rintro e w1 ⟨rfl, hb1, hw1⟩; dsimp only) | (with_reducible refine wl_run rfl (ex_and15 _ 5 5 (.tmp 24) (.const (.int .u8 15)) rfl c.toNat hc2.out rfl rfl) ?_) | (with_reducible refine wl_run rfl (ex_sidx _ 9 (.const (.string ⟨hexl.toArray⟩)) (.tmp 21) rfl rfl .u8 hexl (c.toNat / 16) _ h16.out _ (by omega) rfl rfl) ?_) | (with_reducible refine wl_run rfl (ex_sidx _ 9 (.const (.string ⟨hexl.toArray⟩)) (.tmp 25) rfl rfl .u8 hexl (c.toNat % 16) _ h15.out _ (by omega) rfl rfl) ?_) | (go_at_call 59; with_reducible refine (wbyte_n hb1 _ x rfl (by have := hql.out; simp only [List.length_append, List.length_cons, List.length_nil]; omega)).mono ?_; rintro e w2 ⟨rfl, hb2, hw2⟩; dsimp only) | (go_at_call 59; with_reducible refine (wbyte_n hb2 _ y rfl (by have := hql.out; simp only [List.length_append, List.length_cons, List.length_nil]; omega)).mono ?_; rintro e w3 ⟨rfl, hb3, hw3⟩; dsimp only))
        refine ⟨⟨k + 1, by go_num, by omega, ⟨?_, HH.out.2.trans (hw1.trans (hw2.trans hw3)).below⟩⟩, by simp [intOf]; omega⟩
        rw [hq.out, qone, hp.out, if_neg (by decide), ← hx.out, ← hy.out]
        simpa [List.append_assoc] using hb3
      · have hp := Hd.mk hp
        go_wp2_with (first | (go_at_call 55; with_reducible refine (plain_at c.toNat bl _).mono ?_; rw [hp.out]; rintro e w' ⟨rfl, rfl⟩; dsimp only) | (go_at_call 59; with_reducible refine (wbyte_at HH.out.1 c (by have := hql.out; omega)).mono ?_; rintro e w' ⟨rfl, hb, hw⟩))
        refine ⟨⟨k + 1, by go_num, by omega, ⟨?_, HH.out.2.trans hw.below⟩⟩, by simp [intOf]; omega⟩
        rw [hq.out, qone, if_pos hp.out]
        exact hb
    · have hk2 : (k : Int) = l.length := by omega
      have hk3 : k = l.length := by omega
      have hb : Hd (Bd wr w.heap.size (quote l bl) ∧ Below w.heap.size w wr) := ⟨by
        have := HH.out
        rw [hk3, List.take_length] at this
        exact this⟩
      clear hk3 HH
      go_wp2_with (go_at_call 36; with_reducible refine (bstr_at hb.out.1).mono ?_; rintro e w' ⟨rfl, hb1, hw1⟩)
      go_ret
      exact ⟨rfl, Kp.of_below (hb.out.2.trans hw1.below) _⟩
end Go.Proofs.YtkcechpaeilaeaaGreatDoor
