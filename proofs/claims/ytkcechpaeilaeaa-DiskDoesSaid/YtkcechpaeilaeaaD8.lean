/- Load, Image, New. -/
import Derived.Test.YtkcechpaeilaeaaD7
namespace Go.Proofs.Ytkcechpaeilaeaa
open Go.RowKit
set_option linter.unusedVariables false
set_option linter.unusedSimpArgs false

/-- The k-th page of an image. -/
def pageIn (img : List Int) (k : Nat) : List Int := (img.drop (k * 256)).take 256
/-- The stable pages when the first k pages of an image are loaded. -/
def loadUpto (st : List (List Int)) (img : List Int) (k : Nat) : List (List Int) := (List.range st.length).map fun p : Nat => if p < k then pageIn img p else st.getD p []
def loadM (M : DM) (img : List Int) : DM := wakeM (withSt M (loadUpto M.st img M.st.length))
theorem loadUpto_length (st : List (List Int)) (img : List Int) (k : Nat) : (loadUpto st img k).length = st.length := by simp [loadUpto]
theorem loadUpto_get (st : List (List Int)) (img : List Int) (k p : Nat) (hp : p < st.length) : (loadUpto st img k)[p]? = some (if p < k then pageIn img p else st.getD p []) := by
  simp only [loadUpto, List.getElem?_map, List.getElem?_range hp, Option.map_some]
theorem loadUpto_zero (st : List (List Int)) (img : List Int) : loadUpto st img 0 = st := by
  apply List.ext_getElem?
  intro p
  rcases Nat.lt_or_ge p st.length with hp | hp
  · rw [loadUpto_get _ _ _ _ hp, if_neg (by omega), List.getElem?_eq_getElem hp, getD_at _ _ _ hp]
  · rw [List.getElem?_eq_none (by rw [loadUpto_length]; omega), List.getElem?_eq_none hp]
theorem loadUpto_succ (st : List (List Int)) (img : List Int) (k : Nat) (hk : k < st.length) : loadUpto st img (k + 1) = (loadUpto st img k).set k (pageIn img k) := by
  apply List.ext_getElem?
  intro p
  rcases Nat.lt_or_ge p st.length with hp | hp
  · rw [loadUpto_get _ _ _ _ hp, List.getElem?_set]
    by_cases e : k = p
    · subst e
      rw [if_pos rfl, if_pos (show k < (loadUpto st img k).length by rw [loadUpto_length]; exact hp), if_pos (by omega)]
    · rw [if_neg e, loadUpto_get _ _ _ _ hp]
      by_cases c : p < k
      · rw [if_pos c, if_pos (by omega)]
      · rw [if_neg c, if_neg (by omega)]
  · rw [List.getElem?_eq_none (by rw [loadUpto_length]; omega), List.getElem?_eq_none (by simp [loadUpto_length]; omega)]
theorem pageIn_length (img : List Int) (n k : Nat) (h : img.length = n * 256) (hk : k < n) : (pageIn img k).length = 256 := by
  have := Nat.mul_le_mul_right 256 (show k + 1 ≤ n from hk)
  simp only [pageIn, List.length_take, List.length_drop]
  omega
theorem loadUpto_ok (st : List (List Int)) (hst : ∀ b ∈ st, b.length = 256) (img : List Int) (h : img.length = st.length * 256) (k : Nat) : ∀ b ∈ loadUpto st img k, b.length = 256 := by
  intro b hb
  obtain ⟨p, hp, rfl⟩ := List.mem_map.1 hb
  have hp := List.mem_range.1 hp
  split
  · exact pageIn_length img _ p h hp
  · rw [getD_at _ _ _ hp]; exact hst _ (List.getElem_mem _)

theorem load_no {w : World} {d : Nat} {M : DM} {F : Nat → Prop} (h : DiskAt w d M F) (A : Option Addr) (n c : Nat) (hne : n ≠ M.st.length * 256) : Calls Try.prog 27 #[.pointer (some ⟨d, 0, none⟩), .slice A n c] w fun e w' => e = .returned (.int .i64 1) ∧ w = w' := by
  have hno := Hd.mk (none_at h)
  obtain ⟨hok, S, cS, m, wv, spare, L, hp⟩ := h
  have c0 := hp.c0
  have hm : (M.st.length : Int) ≤ 2048 := by have := hok.most; omega
  clear hp hok
  have hne' : ((n : Int) != (M.st.length : Int) * 256) = true := by rw [bne_iff_ne]; omega
  clear hne
  go_enter Try.func27, Try.ntmps27
  go_wp2_with (first | (go_at_call 33; refine hno.out.mono ?_; rintro e w' ⟨rfl, rfl⟩))
  go_ret
  exact ⟨rfl, rfl⟩

set_option maxHeartbeats 2000000 in
theorem load_yes {w : World} {d : Nat} {M : DM} {F : Nat → Prop} (h : DiskAt w d M F) {v : Value} {img : List Int} (hv : Bs w v img) (hF : ∀ k, v.ownBlock = some k → ¬ F k) (hl : img.length = M.st.length * 256) : Calls Try.prog 27 #[.pointer (some ⟨d, 0, none⟩), v] w fun e w' => e = .returned (.int .i64 0) ∧ DiskAt w' d (loadM M img) F ∧ Kp F w w' := by
  have hno := Hd.mk (none_at h)
  obtain ⟨hok, S, cS, m, wv, spare, L, hp⟩ := h
  obtain ⟨PA, cP, rfl, hcP, hpr0⟩ := hv
  have hpos := hok.pos
  obtain ⟨pb, po, rfl, hpr⟩ : ∃ pb po, PA = some ⟨pb, po, none⟩ ∧ w.rangeAt pb po (u8s img) := by
    rcases hpr0 with h0 | h0
    · rw [h0] at hl; simp at hl; omega
    · exact h0
  clear hpr0
  have hF := hF pb rfl
  have c0 := hp.c0
  have hm : (M.st.length : Int) ≤ 2048 := by have := hok.most; omega
  have heq : ((img.length : Int) != (M.st.length : Int) * 256) = false := by rw [bne_eq_false_iff_eq]; omega
  have hpb : pb < w.heap.size := rangeAt_lt hpr (by intro e; have := congrArg List.length e; simp at this; subst this; simp at hl; omega)
  have Hp := Hd.mk hp
  have Hok := Hd.mk hok
  have Hpr := Hd.mk hpr
  have Hl := Hd.mk hl
  have HcP := Hd.mk hcP
  clear hp hok hpr hl hpos hcP
  go_enter Try.func27, Try.ntmps27
  go_wp2_with (first | (go_at_call 33; refine hno.out.mono ?_; rintro e w' ⟨rfl, rfl⟩))
  clear heq
  go_loopw [24] (fun v24 wr => ∃ k : Nat, v24 = .int .i64 k ∧ k ≤ M.st.length ∧ Hd (DiskP wr d (withSt M (loadUpto M.st img k)) F S cS m wv spare L) ∧ Hd (Kp F w wr)) (fun v24 _ => M.st.length - (intOf v24).toNat)
  case atStart => exact ⟨0, rfl, Nat.zero_le _, ⟨by rw [loadUpto_zero]; exact Hp.out⟩, ⟨Kp.refl _ _⟩⟩
  case round =>
    obtain ⟨k, rfl, hk, HD, HK⟩ := hrel
    by_cases hlt : k < M.st.length
    · have hltI : (k : Int) < (M.st.length : Int) := by omega
      have Hlt := Hd.mk hlt
      have hlen := loadUpto_ok M.st Hok.out.st img Hl.out k
      have hpl := pageIn_length img _ k Hl.out hlt
      have hbig := Nat.mul_le_mul_right 256 (show k + 1 ≤ M.st.length from hlt)
      have hrg : wr.rangeAt pb (po + k * 256) (u8s (pageIn img k)) := fun j x hx => by
        have hj : j < 256 := by have := (List.getElem?_eq_some_iff.1 hx).1; rw [u8s_length, hpl] at this; exact this
        rw [show po + k * 256 + j = po + (k * 256 + j) from by omega]
        refine rangeAt_keep Hpr.out (HK.out.block pb hpb hF) _ _ ?_
        rw [u8s_get] at hx ⊢
        rw [← hx]
        unfold pageIn
        rw [List.getElem?_take_of_lt hj, List.getElem?_drop]
      have hS : Hd ((fun W : World => W.cell? ⟨d, 0, none⟩ = some (.slice (some ⟨S, 0, none⟩) M.st.length cS) ∧ W.rangeAt pb (po + k * 256) (u8s (pageIn img k))) wr.drew) := by
        refine ⟨?_, hrg⟩
        have := HD.out.c0
        rw [show (withSt M (loadUpto M.st img k)).st.length = M.st.length from loadUpto_length _ _ _] at this
        exact this
      have Hpl := Hd.mk hpl
      have Hlen := Hd.mk hlen
      have Hk1 := Hd.mk (show k * 256 < img.length by rw [Hl.out]; omega)
      have Hk2 := Hd.mk (show 256 ≤ img.length - k * 256 by rw [Hl.out]; omega)
      have hk0 := Hd.mk (show (k : Int) * 256 = ((k * 256 : Nat) : Int) by omega)
      have Hk3 := Hd.mk (show (k : Int) * 256 ≤ 1000000 by omega)
      clear hlt hk hpl hlen hbig hrg
      go_wp2_with fail
      refine rn_begin (fun W : World => W.cell? ⟨d, 0, none⟩ = some (.slice (some ⟨S, 0, none⟩) M.st.length cS) ∧ W.rangeAt pb (po + k * 256) (u8s (pageIn img k))) (List.range 12) (by kernel_rfl) ?_
      refine rn_take (i := 0) (dst := some 27) (v := .pointer (some ⟨d, 0, none⟩)) rfl (by kernel_rfl) (fun _ _ _ h => h) rfl rfl (fun W hW => ex_move W _ _ rfl rfl) hS.out ?_; simp only [Act.put, List.setIfInBounds_toArray, List.set_cons_zero, List.set_cons_succ]
      refine rn_take (i := 1) (dst := some 28) (v := .pointer (some ⟨d, 0, none⟩)) rfl (by kernel_rfl) (fun _ _ _ h => h) rfl rfl (fun W hW => ex_nilCheck W _ _ rfl rfl) hS.out ?_; simp only [Act.put, List.setIfInBounds_toArray, List.set_cons_zero, List.set_cons_succ]
      refine rn_take (i := 2) (dst := some 29) (v := .pointer (some ⟨d, 0, none⟩)) rfl (by kernel_rfl) (fun _ _ _ h => h) rfl rfl (fun W hW => ex_field W 61 0 _ rfl d 0 0 0 Try.underlying61 rfl info57 rfl rfl) hS.out ?_; simp only [Act.put, List.setIfInBounds_toArray, List.set_cons_zero, List.set_cons_succ]
      refine rn_take (i := 3) (dst := some 30) (v := .slice (some ⟨S, 0, none⟩) M.st.length cS) rfl (by kernel_rfl) (fun _ _ _ h => h) rfl rfl (fun W hW => ex_load W 57 _ _ rfl ⟨d, 0, none⟩ Try.underlying57 rfl rfl hW.1) hS.out ?_; simp only [Act.put, List.setIfInBounds_toArray, List.set_cons_zero, List.set_cons_succ]
      refine rn_take (i := 4) (dst := some 31) (v := .int .i64 (k : Int)) rfl (by kernel_rfl) (fun _ _ _ h => h) rfl rfl (fun W hW => ex_move W _ _ rfl rfl) hS.out ?_; simp only [Act.put, List.setIfInBounds_toArray, List.set_cons_zero, List.set_cons_succ]
      refine rn_take (i := 5) (dst := some 32) (v := .slice (some ⟨pb, po, none⟩) img.length cP) rfl (by kernel_rfl) (fun _ _ _ h => h) rfl rfl (fun W hW => ex_move W _ _ rfl rfl) hS.out ?_; simp only [Act.put, List.setIfInBounds_toArray, List.set_cons_zero, List.set_cons_succ]
      refine rn_take (i := 6) (dst := some 33) (v := .int .i64 (k : Int)) rfl (by kernel_rfl) (fun _ _ _ h => h) rfl rfl (fun W hW => ex_move W _ _ rfl rfl) hS.out ?_; simp only [Act.put, List.setIfInBounds_toArray, List.set_cons_zero, List.set_cons_succ]
      refine rn_take (i := 7) (dst := some 34) (v := .int .i64 ((k * 256 : Nat) : Int)) rfl (by kernel_rfl) (fun _ _ _ h => h) rfl rfl (fun W hW => by rw [← hk0.out]; exact ex_mul W _ _ _ _ rfl _ 256 rfl rfl (by have := Hk3.out; omega) (by have := Hk3.out; omega)) hS.out ?_; simp only [Act.put, List.setIfInBounds_toArray, List.set_cons_zero, List.set_cons_succ]
      refine rn_take (i := 8) (dst := some 35) (v := .slice (some ⟨pb, po + k * 256 * 1, none⟩) (img.length - k * 256) (cP - k * 256)) rfl (by kernel_rfl) (fun _ _ _ h => h) rfl rfl (fun W hW => ex_sliceFrom W 23 _ _ rfl Try.underlying23 1 info5s pb po _ _ (k * 256) rfl .i64 rfl Hk1.out HcP.out) hS.out ?_; simp only [Act.put, List.setIfInBounds_toArray, List.set_cons_zero, List.set_cons_succ]
      refine rn_take (i := 9) (dst := some 36) (v := .pointer (some ⟨pb, po + k * 256 * 1, none⟩)) rfl (by kernel_rfl) (fun _ _ _ h => h) rfl rfl (fun W hW => ex_toArray W 68 _ rfl 256 Try.underlying68 _ _ _ rfl Hk2.out) hS.out ?_; simp only [Act.put, List.setIfInBounds_toArray, List.set_cons_zero, List.set_cons_succ]
      refine rn_take (i := 10) (dst := some 37) (v := .agg (u8s (pageIn img k)).toArray) rfl (by kernel_rfl) (fun _ _ _ h => h) rfl rfl (fun W hW => ex_load_mid W 68 _ rfl pb (po + k * 256 * 1) rfl _ (by rw [Nat.mul_one]; exact hW.2) Try.underlying68 rfl (by rw [u8s_length, Hpl.out]; exact info68)) hS.out ?_; simp only [Act.put, List.setIfInBounds_toArray, List.set_cons_zero, List.set_cons_succ]
      refine rn_take (i := 11) (dst := some 38) (v := .pointer (some ⟨S, 0 + k * 256, none⟩)) rfl (by kernel_rfl) (fun _ _ _ h => h) rfl rfl (fun W hW => ex_index W 57 68 _ _ rfl 256 k Try.underlying57 info68 S 0 _ _ rfl .i64 rfl Hlt.out) hS.out ?_; simp only [Act.put, List.setIfInBounds_toArray, List.set_cons_zero, List.set_cons_succ]
      refine rn_one (i := 12) (dst := none) rfl (by kernel_rfl) rfl rfl (fun K hK => ?_)
      have hlen3 : 0 + k * 256 + (u8s (pageIn img k)).length ≤ (scells (loadUpto M.st img k) ++ spare).length := by
        rw [u8s_length, Hpl.out, List.length_append]
        have h1 := flat_length u8s 256 (loadUpto M.st img k) (fun x hx => by rw [u8s_length]; exact Hlen.out x hx)
        rw [loadUpto_length] at h1
        have := Nat.mul_le_mul_right 256 (show k + 1 ≤ M.st.length from Hlt.out)
        unfold scells
        omega
      refine ow_store_mid (w := wr.drew) 68 _ _ rfl S (0 + k * 256) 68 (scells (loadUpto M.st img k) ++ spare) (u8s (pageIn img k)) rfl rfl HD.out.stb hlen3 (by rw [u8s_length, Hpl.out]; exact info68) (u8s_one _) (fun w5 hb5 hk5 hs5 => hK _ _ (fun h => by simp at h) ?_)
      clear hK K
      refine rn_done (by kernel_rfl) ?_ _
      have hk5' : Kp (· = S) wr w5 := ⟨hk5.os, hk5.tape, hk5.output, hk5.size, hk5.block⟩
      rw [Nat.zero_add, splice_page _ Hlen.out spare k (by rw [loadUpto_length]; exact Hlt.out) _ Hpl.out, ← loadUpto_succ _ _ _ Hlt.out] at hb5
      have HD5 := Hd.mk (HD.out.stable (st := loadUpto M.st img (k + 1)) (by rw [loadUpto_length]; show _ = (loadUpto M.st img k).length; rw [loadUpto_length]) hk5' hb5)
      have HK5 := Hd.mk (HK.out.andThen hk5' (fun i _ e => e ▸ HD.out.fS))
      clear hb5 hk5 hk5' hs5 hlen3 hS
      simp only [Act.put, List.setIfInBounds_toArray, List.set_cons_zero, List.set_cons_succ]
      go_wp2_with fail
      exact ⟨⟨k + 1, by go_num, Hlt.out, HD5, HK5⟩, by have := Hlt.out; simp [intOf]; omega⟩
    · have e : k = M.st.length := by omega
      subst e
      have hD : DiskAt wr d (withSt M (loadUpto M.st img M.st.length)) F := ⟨Hok.out.withSt (loadUpto_length _ _ _) (loadUpto_ok _ Hok.out.st _ Hl.out _), S, cS, m, wv, spare, L, HD.out⟩
      have hw := Hd.mk (wakes_at hD)
      clear hD hlt hk
      go_wp2_with (first | (go_at_call 34; refine hw.out.mono ?_; rintro e w5 ⟨rfl, h5, k5⟩; have H5 := Hd.mk h5; have K5 := Hd.mk k5; clear h5 k5))
      go_ret
      exact ⟨rfl, H5.out, HK.out.andThen K5.out (fun _ _ h => h)⟩
end Go.Proofs.Ytkcechpaeilaeaa
