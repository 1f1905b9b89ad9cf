/- Crash. -/
import Derived.Test.YtkcechpaeilaeaaD6
namespace Go.Proofs.Ytkcechpaeilaeaa
open Go.RowKit
set_option linter.unusedVariables false
set_option linter.unusedSimpArgs false

/-- So many bytes of the k-th write come about. -/
def many (pick : List Int) (k : Nat) : Nat := if k < pick.length then (pick.getD k 0 % 5).toNat * 64 else 0
/-- The stable pages when the first k writes that wait have come about, each by its part. -/
def crashUpto (st : List (List Int)) (ws : List (Nat × List Int)) (pick : List Int) : Nat → List (List Int)
  | 0 => st
  | k + 1 => let s := crashUpto st ws pick k
    let x := ws.getD k (0, [])
    s.set x.1 (x.2.take (many pick k) ++ (s.getD x.1 []).drop (many pick k))
def crashM (M : DM) (pick : List Int) : DM := wakeM (withSt M (crashUpto M.st M.ws pick M.ws.length))
theorem many_le (pick : List Int) (k : Nat) : many pick k ≤ 256 := by
  unfold many
  split
  · have := Int.emod_lt_of_pos (pick.getD k 0) (show (0 : Int) < 5 by omega)
    have := Int.emod_nonneg (pick.getD k 0) (show (5 : Int) ≠ 0 by omega)
    omega
  · omega
theorem crashUpto_ok {M : DM} (h : M.Ok) (pick : List Int) (k : Nat) (hk : k ≤ M.ws.length) : (crashUpto M.st M.ws pick k).length = M.st.length ∧ ∀ b ∈ crashUpto M.st M.ws pick k, b.length = 256 := by
  induction k with
  | zero => exact ⟨rfl, h.st⟩
  | succ k ih =>
    obtain ⟨h1, h2⟩ := ih (by omega)
    have hx := h.ws M.ws[k] (List.getElem_mem _)
    simp only [crashUpto]
    rw [getD_at M.ws _ k (by omega)]
    refine ⟨by simp [h1], fun b hb => ?_⟩
    rcases List.mem_or_eq_of_mem_set hb with hb | hb
    · exact h2 b hb
    · subst hb
      have h3 : ((crashUpto M.st M.ws pick k).getD M.ws[k].1 []).length = 256 := by
        rw [getD_at _ _ _ (by omega)]
        exact h2 _ (List.getElem_mem _)
      have := many_le pick k
      simp only [List.length_append, List.length_take, List.length_drop, h3, hx.2]
      omega

/-- A part of a page written over a stable one. -/
theorem splice_part (st : List (List Int)) (hst : ∀ b ∈ st, b.length = 256) (spare : List Value) (p : Nat) (hp : p < st.length) (b : List Int) (n : Nat) (hb : b.length = 256) (hn : n ≤ 256) :
    splice (scells st ++ spare) (p * 256) (u8s (b.take n)) = scells (st.set p (b.take n ++ (st.getD p []).drop n)) ++ spare := by
  have hpg : (b.take n ++ (st.getD p []).drop n).length = 256 := by
    rw [getD_at _ _ _ hp]
    have := hst _ (List.getElem_mem hp)
    simp only [List.length_append, List.length_take, List.length_drop]
    omega
  rw [← splice_page st hst spare p hp _ hpg]
  have hl : ∀ x ∈ st, (u8s x).length = 256 := fun x hx => by simp [hst x hx]
  have hlen := flat_length u8s 256 st hl
  have hfr := flat_range u8s 256 st hl p hp
  have hbig := Nat.mul_le_mul_right 256 (show p + 1 ≤ st.length from hp)
  have hs : (scells st ++ spare).drop (p * 256) = u8s st[p] ++ ((scells st ++ spare).drop ((p + 1) * 256)) := by
    have e1 : ((scells st ++ spare).drop (p * 256)).take 256 = u8s st[p] := by
      unfold scells
      rw [List.drop_append_of_le_length (by rw [hlen]; exact Nat.mul_le_mul_right _ (by omega)), List.take_append_of_le_length (by rw [List.length_drop, hlen]; omega), hfr]
    rw [← List.take_append_drop 256 ((scells st ++ spare).drop (p * 256)), e1, List.drop_drop, show p * 256 + 256 = (p + 1) * 256 from by omega]
  unfold splice
  have hp256 := hst _ (List.getElem_mem hp)
  have e3 : ∀ m, m ≤ 256 → (scells st ++ spare).drop (p * 256 + m) = (u8s st[p]).drop m ++ ((scells st ++ spare).drop ((p + 1) * 256)) := by
    intro m hm
    rw [← List.drop_drop, hs, List.drop_append_of_le_length (by rw [u8s_length, hp256]; exact hm)]
  rw [e3 _ (by rw [u8s_length, List.length_take, hb]; omega), e3 _ (by rw [u8s_length, hpg]; exact Nat.le_refl _)]
  rw [getD_at _ _ _ hp, u8s_append, u8s_drop]
  have e4 : (u8s (b.take n)).length = n := by rw [u8s_length, List.length_take, hb]; omega
  rw [e4]
  have e5 : (u8s (b.take n) ++ (u8s st[p]).drop n).length = 256 := by
    rw [List.length_append, e4, List.length_drop, u8s_length, hp256]; omega
  rw [e5]
  have e6 : (u8s st[p]).drop 256 = [] := List.drop_of_length_le (by rw [u8s_length, hp256]; exact Nat.le_refl _)
  rw [e6]
  simp

theorem info3s : (Try.prog.info? 3).map (·.size) = some (0 + 1) := by kernel_rfl
theorem info5s : (Try.prog.info? 5).map (·.size) = some 1 := by kernel_rfl
set_option maxHeartbeats 2000000 in
theorem crash_gen {w : World} {d : Nat} {M : DM} {F : Nat → Prop} (h : DiskAt w d M F) {v : Value} {pick : List Int} (hv : Bs w v pick) (hb : Bytes pick) (hF : pick ≠ [] → ∀ k, v.ownBlock = some k → ¬ F k) : Calls Try.prog 13 #[.pointer (some ⟨d, 0, none⟩), v] w fun e w' => e = .returned (.int .i64 0) ∧ DiskAt w' d (crashM M pick) F ∧ Kp F w w' := by
  have hno := Hd.mk (none_at h)
  obtain ⟨hok, S, cS, m, wv, spare, L, hp⟩ := h
  obtain ⟨A, cw, hwv, -⟩ := ownsRow_len hp.waits
  obtain ⟨PA, cP, rfl, hcP, hpr⟩ := hv
  have c1 := hp.c1
  rw [hwv] at c1
  have Hp := Hd.mk hp
  have Hok := Hd.mk hok
  have Hwv := Hd.mk hwv
  have Hpr := Hd.mk hpr
  have Hby := Hd.mk hb
  have Hlt := Hd.mk hp.lt
  clear hp hok hwv hpr hb
  go_enter Try.func13, Try.ntmps13
  go_wp2_with (first | (go_at_call 33; refine hno.out.mono ?_; rintro e w' ⟨rfl, rfl⟩))
  go_loopw [15] (fun v15 wr => ∃ k : Nat, v15 = .int .i64 k ∧ k ≤ M.ws.length ∧ Hd (DiskP wr d (withSt M (crashUpto M.st M.ws pick k)) F S cS m wv spare L) ∧ Hd (Kp F w wr)) (fun v15 _ => M.ws.length - (intOf v15).toNat)
  case atStart => exact ⟨0, rfl, Nat.zero_le _, Hp, ⟨Kp.refl _ _⟩⟩
  case round =>
    obtain ⟨k, rfl, hk, HD, HK⟩ := hrel
    by_cases hlt : k < M.ws.length
    · obtain ⟨hst1, hst2⟩ := crashUpto_ok Hok.out pick k hk
      have hokD := Hok.out.withSt hst1 hst2
      obtain ⟨g, cap, hwv2, hFg, hr⟩ := HD.out.wait hokD hlt
      have hx := Hok.out.ws M.ws[k] (List.getElem_mem _)
      rw [Hwv.out] at hwv2
      injection hwv2 with hA hL hc
      subst hA
      subst hc
      clear hL
      have Hr := Hd.mk (show wr.rangeAt g (k * 257) (wcell M.ws[k]) from hr)
      have hwl : (wcell M.ws[k]).length = 257 := wcell_length hx.2
      have hi70 := Hd.mk (show (Try.prog.info? 70).map (·.size) = some (wcell M.ws[k]).length by rw [hwl]; exact info70)
      have hZ := Hd.mk (show Z257.length = (wcell M.ws[k]).length by rw [Z257_length, hwl])
      have hone := Hd.mk (show ∀ v ∈ wcell M.ws[k], v.oneCell' = true by
        intro v hv
        rcases List.mem_cons.1 hv with rfl | hv
        · rfl
        · exact u8s_one _ v hv)
      have hdl := blk_lt HD.out.blk
      have Hx := Hd.mk hx
      have Hst1 := Hd.mk hst1
      have Hst2 := Hd.mk hst2
      have hltI : (k : Int) < (M.ws.length : Int) := by omega
      have Hlt' := Hd.mk hlt
      have hm1 : (M.ws.length : Int) ≤ 1073741824 := by have := Hok.out.few; omega
      have hX : Hd (M.ws.getD k (0, []) = M.ws[k]) := ⟨getD_at _ _ _ hlt⟩
      clear hr hst1 hst2 hokD hwl hx
      generalize M.ws[k] = X at *
      obtain ⟨p, bb⟩ := X
      by_cases hin : k < pick.length
      · rcases Hpr.out with hp0 | ⟨pb, po, rfl, hpr⟩
        · rw [hp0] at hin; simp at hin
        have hpb0 : pb < w.heap.size := rangeAt_lt hpr (by intro e; have := congrArg List.length e; simp at this; subst this; simp at hin)
        have hcell : wr.cell? ⟨pb, po + k, none⟩ = some (.int .u8 pick[k]) :=
          rangeAt_keep hpr (HK.out.block pb hpb0 (hF (by rintro rfl; simp at hin) pb rfl)) _ _ (by rw [u8s_get, List.getElem?_eq_getElem hin]; rfl)
        have hpb : pb < wr.heap.size := Nat.lt_of_lt_of_le hpb0 HK.out.size
        have hinI : (k : Int) < (pick.length : Int) := by omega
        obtain ⟨hx0, hx1⟩ := Hby.out _ (List.getElem_mem hin)
        have hnn := Hd.mk (show pick[k] % 5 * 64 = ((many pick k : Nat) : Int) by
          unfold many
          rw [if_pos hin, getD_at _ _ _ hin]
          have := Int.emod_nonneg pick[k] (show (5 : Int) ≠ 0 by omega)
          omega)
        have hE : Hd (many pick k = many pick k) := ⟨rfl⟩
        have Hin := Hd.mk hin
        generalize hxx : pick[k] = x at hcell hx0 hx1 hnn
        clear hin hxx hpb0 hpr hlt hk
        go_wp2_with (first
          | (with_reducible refine wl_load_mid rfl 70 _ rfl g (k * 257) rfl _ Hr.out Try.underlying70 rfl hi70.out ?_)
          | (with_reducible refine wl_alloc rfl 70 rfl Z257 (zero70 _) ?_)
          | (with_reducible refine wl_store_new rfl 70 _ _ rfl Z257 (wcell (p, bb)) rfl rfl hi70.out hZ.out hone.out ?_))
        rw [hnn.out]
        have hD2 := Hd.mk (HD.out.keep ((Kp.refl (fun _ => False) wr).alloc (.cells (wcell (p, bb)).toArray 70)) (fun _ _ => id))
        have hnew := Blk.new wr (wcell (p, bb)) 70
        have hmany := Hd.mk (many_le pick k)
        generalize hnk : many pick k = n at *
        have hS : Hd ((fun W : World => W.cell? ⟨d, 0, none⟩ = some (.slice (some ⟨S, 0, none⟩) M.st.length cS) ∧ W.cell? ⟨wr.heap.size, 0, none⟩ = some (.int .i64 (p : Int)) ∧ W.rangeAt wr.heap.size 1 (u8s (bb.take n))) (wr.alloc (.cells (wcell (p, bb)).toArray 70)).drew) := by
          refine ⟨?_, ?_, ?_⟩
          · have := hD2.out.c0
            rw [show (withSt M (crashUpto M.st M.ws pick k)).st.length = M.st.length from Hst1.out] at this
            exact this
          · exact (hnew.cell 0).trans rfl
          · have := hnew.range 1 n
            rw [show (wcell (p, bb)).drop 1 = u8s bb from rfl, ← u8s_take] at this
            exact this
        have Hnew := Hd.mk hnew
        have Hnk := Hd.mk hnk
        clear hnew hnk hnn hcell hdl hpb
        refine rn_begin (fun W : World => W.cell? ⟨d, 0, none⟩ = some (.slice (some ⟨S, 0, none⟩) M.st.length cS) ∧ W.cell? ⟨wr.heap.size, 0, none⟩ = some (.int .i64 (p : Int)) ∧ W.rangeAt wr.heap.size 1 (u8s (bb.take n))) (List.range 13) (by kernel_rfl) ?_
        refine rn_take (i := 0) (dst := some 31) (v := .pointer (some ⟨d, 0, none⟩)) rfl (by kernel_rfl) (fun _ _ _ h => h) rfl rfl (fun W hW => ex_move W _ _ rfl rfl) hS.out ?_; simp only [Act.put, List.setIfInBounds_toArray, List.set_cons_zero, List.set_cons_succ]
        refine rn_take (i := 1) (dst := some 32) (v := .pointer (some ⟨d, 0, none⟩)) rfl (by kernel_rfl) (fun _ _ _ h => h) rfl rfl (fun W hW => ex_nilCheck W _ _ rfl rfl) hS.out ?_; simp only [Act.put, List.setIfInBounds_toArray, List.set_cons_zero, List.set_cons_succ]
        refine rn_take (i := 2) (dst := some 33) (v := .pointer (some ⟨d, 0, none⟩)) rfl (by kernel_rfl) (fun _ _ _ h => h) rfl rfl (fun W hW => ex_field W 61 0 _ rfl d 0 0 0 Try.underlying61 rfl info57 rfl rfl) hS.out ?_; simp only [Act.put, List.setIfInBounds_toArray, List.set_cons_zero, List.set_cons_succ]
        refine rn_take (i := 3) (dst := some 34) (v := .slice (some ⟨S, 0, none⟩) M.st.length cS) rfl (by kernel_rfl) (fun _ _ _ h => h) rfl rfl (fun W hW => ex_load W 57 _ _ rfl ⟨d, 0, none⟩ Try.underlying57 rfl rfl hW.1) hS.out ?_; simp only [Act.put, List.setIfInBounds_toArray, List.set_cons_zero, List.set_cons_succ]
        refine rn_take (i := 4) (dst := some 35) (v := .pointer (some ⟨wr.heap.size, 0, none⟩)) rfl (by kernel_rfl) (fun _ _ _ h => h) rfl rfl (fun W hW => ex_field W 70 0 _ rfl wr.heap.size 0 0 0 Try.underlying70 rfl info3s rfl rfl) hS.out ?_; simp only [Act.put, List.setIfInBounds_toArray, List.set_cons_zero, List.set_cons_succ]
        refine rn_take (i := 5) (dst := some 36) (v := .int .i64 (p : Int)) rfl (by kernel_rfl) (fun _ _ _ h => h) rfl rfl (fun W hW => ex_load W 3 _ _ rfl ⟨wr.heap.size, 0, none⟩ Try.underlying3 rfl rfl hW.2.1) hS.out ?_; simp only [Act.put, List.setIfInBounds_toArray, List.set_cons_zero, List.set_cons_succ]
        refine rn_take (i := 6) (dst := some 37) (v := .pointer (some ⟨S, 0 + p * 256, none⟩)) rfl (by kernel_rfl) (fun _ _ _ h => h) rfl rfl (fun W hW => ex_index W 57 68 _ _ rfl 256 p Try.underlying57 info68 S 0 _ _ rfl .i64 rfl Hx.out.1) hS.out ?_; simp only [Act.put, List.setIfInBounds_toArray, List.set_cons_zero, List.set_cons_succ]
        refine rn_take (i := 7) (dst := some 38) (v := .int .i64 (n : Int)) rfl (by kernel_rfl) (fun _ _ _ h => h) rfl rfl (fun W hW => ex_move W _ _ rfl rfl) hS.out ?_; simp only [Act.put, List.setIfInBounds_toArray, List.set_cons_zero, List.set_cons_succ]
        refine rn_take (i := 8) (dst := some 39) (v := .slice (some ⟨S, 0 + p * 256, none⟩) n 256) rfl (by kernel_rfl) (fun _ _ _ h => h) rfl rfl (fun W hW => ex_sliceTo W 68 _ _ rfl 256 n Try.underlying68 info5s S (0 + p * 256) rfl .i64 rfl hmany.out (by omega)) hS.out ?_; simp only [Act.put, List.setIfInBounds_toArray, List.set_cons_zero, List.set_cons_succ]
        refine rn_take (i := 9) (dst := some 40) (v := .pointer (some ⟨wr.heap.size, 1, none⟩)) rfl (by kernel_rfl) (fun _ _ _ h => h) rfl rfl (fun W hW => ex_field W 70 1 _ rfl wr.heap.size 0 255 1 Try.underlying70 rfl info68s rfl rfl) hS.out ?_; simp only [Act.put, List.setIfInBounds_toArray, List.set_cons_zero, List.set_cons_succ]
        refine rn_take (i := 10) (dst := some 41) (v := .int .i64 (n : Int)) rfl (by kernel_rfl) (fun _ _ _ h => h) rfl rfl (fun W hW => ex_move W _ _ rfl rfl) hS.out ?_; simp only [Act.put, List.setIfInBounds_toArray, List.set_cons_zero, List.set_cons_succ]
        refine rn_take (i := 11) (dst := some 42) (v := .slice (some ⟨wr.heap.size, 1, none⟩) n 256) rfl (by kernel_rfl) (fun _ _ _ h => h) rfl rfl (fun W hW => ex_sliceTo W 68 _ _ rfl 256 n Try.underlying68 info5s wr.heap.size 1 rfl .i64 rfl hmany.out (by omega)) hS.out ?_; simp only [Act.put, List.setIfInBounds_toArray, List.set_cons_zero, List.set_cons_succ]
        refine rn_one (i := 12) (dst := some 43) rfl (by kernel_rfl) rfl rfl (fun K hK => ?_)
        have hlen3 : 0 + p * 256 + n ≤ (scells (crashUpto M.st M.ws pick k) ++ spare).length := by
          rw [List.length_append]
          have h1 := flat_length u8s 256 (crashUpto M.st M.ws pick k) (fun x hx => by rw [u8s_length]; exact Hst2.out x hx)
          rw [Hst1.out] at h1
          have := Nat.mul_le_mul_right 256 (show p + 1 ≤ M.st.length from Hx.out.1)
          have := hmany.out
          unfold scells
          omega
        refine ow_copy 23 _ _ rfl Try.underlying23 info5s S (0 + p * 256) n 256 wr.heap.size 1 256 68 (scells (crashUpto M.st M.ws pick k) ++ spare) (u8s (bb.take n)) rfl rfl hD2.out.stb (by rw [u8s_length, List.length_take, Hx.out.2]; have := hmany.out; omega) hlen3 hS.out.2.2 (u8s_one _) (fun w5 H5 => hK _ _ (fun _ => ?_) ?_)
        · obtain ⟨-, hk5, -⟩ := H5.out
          have e1 : w5.heap[d]? = (wr.alloc (.cells (wcell (p, bb)).toArray 70)).drew.heap[d]? := hk5.block d (blk_lt hD2.out.blk) (fun e => hD2.out.d_ne_S e)
          have e2 : w5.heap[wr.heap.size]? = (wr.alloc (.cells (wcell (p, bb)).toArray 70)).drew.heap[wr.heap.size]? := hk5.block _ (by simp) (fun e => by have := blk_lt HD.out.stb; omega)
          exact ⟨by rw [World.cell?_of_block e1]; exact hS.out.1, by rw [World.cell?_of_block e2]; exact hS.out.2.1, rangeAt_keep hS.out.2.2 e2⟩
        clear hK K
        refine rn_done (by kernel_rfl) ?_ _
        obtain ⟨hb5, hk5, hs5⟩ := H5.out
        have hk5' : Kp (· = S) (wr.alloc (.cells (wcell (p, bb)).toArray 70)) w5 := ⟨hk5.os, hk5.tape, hk5.output, hk5.size, hk5.block⟩
        rw [Nat.zero_add, splice_part _ Hst2.out spare p (by rw [Hst1.out]; exact Hx.out.1) bb n Hx.out.2 hmany.out] at hb5
        have hnext : crashUpto M.st M.ws pick (k + 1) = (crashUpto M.st M.ws pick k).set p (bb.take n ++ ((crashUpto M.st M.ws pick k).getD p []).drop n) := by
          simp only [crashUpto]
          rw [hX.out, Hnk.out]
        rw [← hnext] at hb5
        have HD5 := Hd.mk (hD2.out.stable (st := crashUpto M.st M.ws pick (k + 1)) (by rw [hnext, List.length_set]; rfl) hk5' hb5)
        have HK5 := Hd.mk ((HK.out.alloc (.cells (wcell (p, bb)).toArray 70)).andThen hk5' (fun i _ e => e ▸ HD.out.fS))
        clear hb5 hk5 hk5' hs5 hlen3 hS hnext H5
        simp only [Act.put, List.setIfInBounds_toArray, List.set_cons_zero, List.set_cons_succ]
        go_wp2_with fail
        exact ⟨⟨k + 1, by go_num, Hlt'.out, HD5, HK5⟩, by have := Hlt'.out; simp [intOf]; omega⟩
      · have hinI : decide ((k : Int) < (pick.length : Int)) = false := by simp; omega
        have hge : (pick.length : Int) ≤ (k : Int) := by omega
        have hm0 : many pick k = 0 := by unfold many; rw [if_neg hin]
        have hnext : crashUpto M.st M.ws pick (k + 1) = crashUpto M.st M.ws pick k := by
          simp only [crashUpto]
          rw [hX.out, hm0]
          simp only [List.take_zero, List.nil_append, List.drop_zero]
          have := Hst1.out
          have := Hx.out.1
          rw [getD_at _ _ _ (by omega)]
          exact List.set_getElem_self (by omega)
        have Hnext := Hd.mk hnext
        clear hnext hm0 hin hlt hk
        go_wp2_with (first
          | (with_reducible refine wl_load_mid rfl 70 _ rfl g (k * 257) rfl _ Hr.out Try.underlying70 rfl hi70.out ?_)
          | (with_reducible refine wl_alloc rfl 70 rfl Z257 (zero70 _) ?_)
          | (with_reducible refine wl_store_new rfl 70 _ _ rfl Z257 (wcell (p, bb)) rfl rfl hi70.out hZ.out hone.out ?_))
        have HD5 := HD.out.keep ((Kp.refl (fun _ => False) wr).alloc (.cells (wcell (p, bb)).toArray 70)) (fun _ _ => id)
        rw [← Hnext.out] at HD5
        exact ⟨⟨k + 1, by go_num, Hlt'.out, ⟨HD5⟩, ⟨HK.out.alloc _⟩⟩, by have := Hlt'.out; simp [intOf]; omega⟩
    · have e : k = M.ws.length := by omega
      subst e
      have hD : DiskAt wr d (withSt M (crashUpto M.st M.ws pick M.ws.length)) F := by
        obtain ⟨h1, h2⟩ := crashUpto_ok Hok.out pick M.ws.length (Nat.le_refl _)
        exact ⟨Hok.out.withSt h1 h2, S, cS, m, wv, spare, L, HD.out⟩
      have hw := Hd.mk (wakes_at hD)
      clear hD hlt hk
      go_wp2_with (first | (go_at_call 34; refine hw.out.mono ?_; rintro e w5 ⟨rfl, h5, k5⟩; have H5 := Hd.mk h5; have K5 := Hd.mk k5; clear h5 k5))
      go_ret
      exact ⟨rfl, H5.out, HK.out.andThen K5.out (fun _ _ h => h)⟩
theorem crash_at {w : World} {d : Nat} {M : DM} {F : Nat → Prop} (h : DiskAt w d M F) {v : Value} {pick : List Int} (hv : Bs w v pick) (hb : Bytes pick) (hF : ∀ k, v.ownBlock = some k → ¬ F k) : Calls Try.prog 13 #[.pointer (some ⟨d, 0, none⟩), v] w fun e w' => e = .returned (.int .i64 0) ∧ DiskAt w' d (crashM M pick) F ∧ Kp F w w' :=
  crash_gen h hv hb (fun _ => hF)
end Go.Proofs.Ytkcechpaeilaeaa
