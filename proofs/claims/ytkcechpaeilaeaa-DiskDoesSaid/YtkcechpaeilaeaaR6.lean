/- The reference's device: Load, Image. -/
import Derived.Test.YtkcechpaeilaeaaR5
import Derived.Test.YtkcechpaeilaeaaD8
import Derived.Test.YtkcechpaeilaeaaD9
namespace Go.Proofs.Ytkcechpaeilaeaa
open Go.RowKit
set_option linter.unusedVariables false
set_option linter.unusedSimpArgs false
theorem er_page_bs {w : World} {pb po cP k n : Nat} {img : List Int} (hr : w.rangeAt pb po (u8s img)) (hl : img.length = n * 256) (hc : img.length ≤ cP) (hk : k < n) : Bs w (.slice (some ⟨pb, po + 256 * k, none⟩) (256 * k + 256 - 256 * k) (cP - 256 * k)) (pageIn img k) := by
  have hpl := pageIn_length img n k hl hk
  have hbig := Nat.mul_le_mul_right 256 (show k + 1 ≤ n from hk)
  refine ⟨_, cP - 256 * k, by rw [hpl]; congr 1; omega, by rw [hpl]; omega, .inr ⟨pb, po + 256 * k, rfl, fun j x hx => ?_⟩⟩
  have hj : j < 256 := by have := (List.getElem?_eq_some_iff.1 hx).1; rw [u8s_length, hpl] at this; exact this
  rw [show po + 256 * k + j = po + (k * 256 + j) from by omega]
  refine hr _ _ ?_
  rw [u8s_get] at hx ⊢
  rw [← hx]
  unfold pageIn
  rw [List.getElem?_take_of_lt hj, List.getElem?_drop]
section
variable {w : World} {r : Nat} {M : DM} {G : Nat → Prop}
theorem rload_no (h : RefAt w r M G) (A : Option Addr) (n c : Nat) (hne : n ≠ M.st.length * 256) : Calls Try.prog 48 #[.pointer (some ⟨r, 0, none⟩), .slice A n c] w fun e w' => e = .returned (.int .i64 1) ∧ w = w' := by
  obtain ⟨hok, sv, wv, ss, ws, hP⟩ := h
  obtain ⟨gs, cs, rfl, -, -, -, -⟩ := hP.sslice hok
  have c0 := hP.c0
  have hm : (M.st.length : Int) ≤ 2048 := by have := hok.most; omega
  have hne' : ((n : Int) != 256 * (M.st.length : Int)) = true := by rw [bne_iff_ne]; omega
  clear hP hok hne
  go_enter Try.func48, Try.ntmps48
  go_wp2_with fail
  go_ret
  exact ⟨rfl, rfl⟩
set_option maxHeartbeats 2000000 in
theorem rload_yes (h : RefAt w r M G) {v : Value} {img : List Int} (hv : Bs w v img) (hF : ∀ k, v.ownBlock = some k → ¬ G k) (hl : img.length = M.st.length * 256) :
    Calls Try.prog 48 #[.pointer (some ⟨r, 0, none⟩), v] w fun e w' => e = .returned (.int .i64 0) ∧ (∃ G', RefAt w' r (loadM M img) G' ∧ ∀ k, G' k → G k ∨ w.heap.size ≤ k) ∧ Kp G w w' := by
  obtain ⟨hok, sv, wv, ss, ws, hP⟩ := h
  obtain ⟨gs, cs, rfl, -, -, -, -⟩ := hP.sslice hok
  obtain ⟨A, cw, rfl, -⟩ := ownsRow_len hP.wrow
  obtain ⟨PA, cP, rfl, hcP, hpr0⟩ := hv
  have hpos := hok.pos
  obtain ⟨pb, po, rfl, hpr⟩ : ∃ pb po, PA = some ⟨pb, po, none⟩ ∧ w.rangeAt pb po (u8s img) := by
    rcases hpr0 with h0 | h0
    · rw [h0] at hl; simp at hl; omega
    · exact h0
  clear hpr0
  have hF := hF pb rfl
  have c0 := hP.c0
  have hm : (M.st.length : Int) ≤ 2048 := by have := hok.most; omega
  have heq : ((img.length : Int) != 256 * (M.st.length : Int)) = false := by rw [bne_eq_false_iff_eq]; omega
  have hpb : pb < w.heap.size := rangeAt_lt hpr (by intro e; have := congrArg List.length e; simp at this; subst this; simp at hl; omega)
  have HP := Hd.mk hP
  have Hok := Hd.mk hok
  have Hpr := Hd.mk hpr
  have Hl := Hd.mk hl
  have HcP := Hd.mk hcP
  clear hP hok hpr hl hpos hcP
  go_enter Try.func48, Try.ntmps48
  go_wp2_with fail
  clear heq
  go_loopw [5] (fun v5 wr => ∃ (k : Nat) (sk : List Value) (Gk : Nat → Prop), v5 = .int .i64 k ∧ k ≤ M.st.length ∧ Hd (RefP wr r (withSt M (loadUpto M.st img k)) Gk (.slice (some ⟨gs, 0, none⟩) M.st.length cs) (.slice A M.ws.length cw) sk ws) ∧ Hd (∀ x, Gk x → G x ∨ w.heap.size ≤ x) ∧ Hd (Kp G w wr)) (fun v5 _ => M.st.length - (intOf v5).toNat)
  case atStart => exact ⟨0, ss, G, rfl, Nat.zero_le _, ⟨by rw [loadUpto_zero]; exact HP.out⟩, ⟨fun _ => .inl⟩, ⟨Kp.refl _ _⟩⟩
  case round =>
    obtain ⟨k, sk, Gk, rfl, hk, HD, HG, HK⟩ := hrel
    have c0 := HD.out.c0
    by_cases hlt : k < M.st.length
    · have hltI : (k : Int) < (M.st.length : Int) := by omega
      have Hlt := Hd.mk hlt
      have hlen : (loadUpto M.st img k).length = M.st.length := loadUpto_length _ _ _
      have hok2 := loadUpto_ok M.st Hok.out.st img Hl.out k
      have hl0 : (withSt M (loadUpto M.st img k)).st.length = M.st.length := hlen
      obtain ⟨g', c', e, -, hrr, -, cur, hcur, -⟩ := HD.out.sslice (Hok.out.withSt hlen hok2)
      injection e with e1 e2 e3
      injection e1 with e1
      injection e1 with e1
      subst e1
      clear e2 e3
      have hqs : k < sk.length := by have := HD.out.slen; omega
      have hc3 : ∃ old, wr.cell? ⟨gs, k, none⟩ = some old := by
        have := hrr k _ (List.getElem?_eq_getElem hqs)
        rw [Nat.zero_add] at this; exact ⟨_, this⟩
      obtain ⟨old, hc3⟩ := hc3
      have Hc3 := Hd.mk hc3
      have Hf3 : Hd (wr.frozen? ⟨gs, k, none⟩ = false) := ⟨frozen_of_row wr gs k cur 23 hcur⟩
      have Hgs : Hd (gs < wr.heap.size) := ⟨blk_lt hcur⟩
      have hprw : wr.rangeAt pb po (u8s img) := rangeAt_keep Hpr.out (HK.out.block pb hpb hF)
      have hpgb := Hd.mk (er_page_bs hprw Hl.out HcP.out hlt)
      have hpl := Hd.mk (pageIn_length img _ k Hl.out hlt)
      have hnext := Hd.mk (loadUpto_succ M.st img k hlt)
      have Hlen := Hd.mk hlen
      have hbig := Nat.mul_le_mul_right 256 (show k + 1 ≤ M.st.length from hlt)
      have Hcut := Hd.mk (show 256 * k + 256 ≤ cP by have := Hl.out; have := HcP.out; omega)
      have hS : Hd ((fun W : World => W.cell? ⟨r, 0, none⟩ = some (.slice (some ⟨gs, 0, none⟩) M.st.length cs)) wr.drew) := ⟨c0⟩
      clear hlt hk hlen hok2 hl0 hrr hcur hqs hprw hbig hc3
      go_wp2_with fail
      have hltN := Hlt.out
      have hcut := Hcut.out
      refine rn_begin (fun W : World => W.cell? ⟨r, 0, none⟩ = some (.slice (some ⟨gs, 0, none⟩) M.st.length cs)) (List.range 13) (by kernel_rfl) ?_
      refine rn_take (i := 0) (dst := some 24) (v := .pointer (some ⟨r, 0, none⟩)) rfl (by kernel_rfl) (fun _ _ _ h => h) rfl rfl (fun W hW => ex_move W _ _ rfl rfl) hS.out ?_
      simp only [Act.put, List.setIfInBounds_toArray, List.set_cons_zero, List.set_cons_succ]
      refine rn_take (i := 1) (dst := some 25) (v := .pointer (some ⟨r, 0, none⟩)) rfl (by kernel_rfl) (fun _ _ _ h => h) rfl rfl (fun W hW => ex_nilCheck W _ _ rfl rfl) hS.out ?_
      simp only [Act.put, List.setIfInBounds_toArray, List.set_cons_zero, List.set_cons_succ]
      refine rn_take (i := 2) (dst := some 26) (v := .pointer (some ⟨r, 0, none⟩)) rfl (by kernel_rfl) (fun _ _ _ h => h) rfl rfl (fun W hW => er_field W 78 0 _ rfl r 0 0 0 0 (by first | rfl | omega) Try.underlying78 rfl (by kernel_rfl) rfl rfl) hS.out ?_
      simp only [Act.put, List.setIfInBounds_toArray, List.set_cons_zero, List.set_cons_succ]
      refine rn_take (i := 3) (dst := some 27) (v := .slice (some ⟨gs, 0, none⟩) M.st.length cs) rfl (by kernel_rfl) (fun _ _ _ h => h) rfl rfl (fun W hW => ex_load W 42 _ _ rfl ⟨r, 0, none⟩ Try.underlying42 rfl rfl (hW)) hS.out ?_
      simp only [Act.put, List.setIfInBounds_toArray, List.set_cons_zero, List.set_cons_succ]
      refine rn_take (i := 4) (dst := some 28) (v := .int .i64 ((k : Nat) : Int)) rfl (by kernel_rfl) (fun _ _ _ h => h) rfl rfl (fun W hW => ex_move W _ _ rfl rfl) hS.out ?_
      simp only [Act.put, List.setIfInBounds_toArray, List.set_cons_zero, List.set_cons_succ]
      refine rn_take (i := 5) (dst := some 29) (v := .slice (some ⟨pb, po, none⟩) img.length cP) rfl (by kernel_rfl) (fun _ _ _ h => h) rfl rfl (fun W hW => ex_move W _ _ rfl rfl) hS.out ?_
      simp only [Act.put, List.setIfInBounds_toArray, List.set_cons_zero, List.set_cons_succ]
      refine rn_take (i := 6) (dst := some 30) (v := .int .i64 ((k : Nat) : Int)) rfl (by kernel_rfl) (fun _ _ _ h => h) rfl rfl (fun W hW => ex_move W _ _ rfl rfl) hS.out ?_
      simp only [Act.put, List.setIfInBounds_toArray, List.set_cons_zero, List.set_cons_succ]
      refine rn_take (i := 7) (dst := some 31) (v := .int .i64 ((256 * k : Nat) : Int)) rfl (by kernel_rfl) (fun _ _ _ h => h) rfl rfl (fun W hW => er_mul W 3 _ _ _ rfl 256 k (256 * k) (by first | rfl | omega) rfl rfl (by omega)) hS.out ?_
      simp only [Act.put, List.setIfInBounds_toArray, List.set_cons_zero, List.set_cons_succ]
      refine rn_take (i := 8) (dst := some 32) (v := .int .i64 ((k : Nat) : Int)) rfl (by kernel_rfl) (fun _ _ _ h => h) rfl rfl (fun W hW => ex_move W _ _ rfl rfl) hS.out ?_
      simp only [Act.put, List.setIfInBounds_toArray, List.set_cons_zero, List.set_cons_succ]
      refine rn_take (i := 9) (dst := some 33) (v := .int .i64 ((256 * k : Nat) : Int)) rfl (by kernel_rfl) (fun _ _ _ h => h) rfl rfl (fun W hW => er_mul W 3 _ _ _ rfl 256 k (256 * k) (by first | rfl | omega) rfl rfl (by omega)) hS.out ?_
      simp only [Act.put, List.setIfInBounds_toArray, List.set_cons_zero, List.set_cons_succ]
      refine rn_take (i := 10) (dst := some 34) (v := .int .i64 ((256 * k + 256 : Nat) : Int)) rfl (by kernel_rfl) (fun _ _ _ h => h) rfl rfl (fun W hW => er_add W 3 _ _ _ rfl (256 * k) 256 (256 * k + 256) (by first | rfl | omega) rfl rfl (by omega)) hS.out ?_
      simp only [Act.put, List.setIfInBounds_toArray, List.set_cons_zero, List.set_cons_succ]
      refine rn_take (i := 11) (dst := some 35) (v := .slice (some ⟨pb, po + 256 * k, none⟩) ((256 * k + 256) - (256 * k)) (cP - (256 * k))) rfl (by kernel_rfl) (fun _ _ _ h => h) rfl rfl (fun W hW => er_cut W 23 _ _ _ rfl Try.underlying23 1 (by kernel_rfl) pb po img.length cP (256 * k) (256 * k + 256) (po + 256 * k) (by first | rfl | omega) rfl .i64 .i64 rfl rfl (by omega) (by omega) (by omega)) hS.out ?_
      simp only [Act.put, List.setIfInBounds_toArray, List.set_cons_zero, List.set_cons_succ]
      refine rn_one (i := 12) (dst := some 36) rfl (by kernel_rfl) rfl rfl (fun K hK => ?_)
      refine ow_call 47 _ _ rfl Try.func47 (by kernel_rfl) (by kernel_rfl) [.slice none 0 0, .slice (some ⟨pb, po + 256 * k, none⟩) (256 * k + 256 - 256 * k) (cP - 256 * k)] rfl (join_at (w := wr.drew) (lb := pageIn img k) (Bs_nil _) (hpgb.out.keep (w' := wr.drew) (fun _ _ _ => rfl)) (by rw [hpl.out]; simp)) ?_
      rintro e w5 ⟨v5, rfl, h51, h52, h53⟩
      have k5 : Kp (fun _ => False) wr w5 := Kp.trans ((Kp.refl _ wr).drew) h53
      rw [List.nil_append, hpl.out] at h51
      have HD5 := Hd.mk (crash_grow HD.out k5 h51 h52)
      obtain ⟨A5, n5, e6, -⟩ := ownsRow_len h51
      subst e6
      have hS5 : Hd ((fun W : World => W.cell? ⟨r, 0, none⟩ = some (.slice (some ⟨gs, 0, none⟩) M.st.length cs)) w5) := ⟨HD5.out.1.c0⟩
      have Hc5 : Hd (w5.cell? ⟨gs, k, none⟩ = some old) := ⟨(World.cell?_of_block (k5.block gs Hgs.out id)).trans Hc3.out⟩
      have Hf5 : Hd (w5.frozen? ⟨gs, k, none⟩ = false) := ⟨(World.frozen?_of_block (k5.block gs Hgs.out id)).trans Hf3.out⟩
      refine ⟨_, rfl, hK _ _ (fun _ => hS5.out) ?_⟩
      clear hK K hS
      have hS := hS5
      simp only [Act.put, List.setIfInBounds_toArray, List.set_cons_zero, List.set_cons_succ]
      refine rn_take (i := 13) (dst := some 37) (v := .pointer (some ⟨gs, k, none⟩)) rfl (by kernel_rfl) (fun _ _ _ h => h) rfl rfl (fun W hW => er_index W 42 23 _ _ rfl 1 k Try.underlying42 (by kernel_rfl) gs 0 _ _ k (by first | rfl | omega) rfl .i64 rfl (by omega)) hS.out ?_
      simp only [Act.put, List.setIfInBounds_toArray, List.set_cons_zero, List.set_cons_succ]
      refine rn_one (i := 14) (dst := none) rfl (by kernel_rfl) rfl rfl (fun K hK => ?_)
      refine ow_store 23 _ _ (.slice A5 256 n5) old rfl ⟨gs, k, none⟩ (by kernel_rfl) rfl rfl rfl rfl Hc5.out Hf5.out (hK _ _ (fun h => by simp at h) ?_)
      clear hK K hS hS5 hltN hcut
      refine rn_done (by kernel_rfl) ?_ _
      simp only [Act.put, List.setIfInBounds_toArray, List.set_cons_zero, List.set_cons_succ]
      have HN := Hd.mk (crash_next HD5.out Hlt.out Hlen.out hnext.out)
      have HK5 := Hd.mk (HK.out.andThen k5 (fun _ _ h => h.elim))
      clear HD5 Hc5 Hf5 h51 h52 h53 k5
      generalize (w5.setCell ⟨gs, k, none⟩ (.slice A5 256 n5)) = w6 at *
      go_wp2_with fail
      exact ⟨⟨k + 1, _, _, by go_num, Hlt.out, HN.out.1, ⟨fun x hx => by
        rcases hx with hx | hx
        · exact HG.out x hx
        · have := HK.out.size; exact .inr (by omega)⟩, ⟨HK5.out.andThen HN.out.2 (fun x hl hx => by
        rcases hx with hx | hx
        · rcases HG.out x hx with h | h
          · exact h
          · omega
        · have := HK.out.size; omega)⟩⟩, by have := Hlt.out; simp [intOf]; omega⟩
    · have e : k = M.st.length := by omega
      subst e
      have f1 := HD.out.fr 1
      have f2 := HD.out.fr 2
      have f3 := HD.out.fr 3
      have c1 := HD.out.c1
      have c2 := HD.out.c2
      have c3 := HD.out.c3
      have hokf := Hd.mk (Hok.out.withSt (loadUpto_length M.st img M.st.length) (loadUpto_ok M.st Hok.out.st img Hl.out M.st.length)).wake
      clear hlt hk
      go_wp2_with fail
      go_ret
      refine ⟨rfl, ⟨Gk, ⟨hokf.out, _, _, _, _, HD.out.clear (M' := loadM M img) ((((Kp.refl _ _).cell _ _).cell _ _).cell _ _) rfl rfl (((HD.out.blk.set 1 (.slice none 0 0)).set 3 (.bool false)).set 2 (.int .i64 (-1)))⟩, HG.out⟩, ?_⟩
      exact HK.out.andThen (S' := (· = r)) ((((Kp.refl _ _).cell _ _).cell _ _).cell _ _) (fun i hi e => e ▸ HP.out.gr)
set_option maxRecDepth 20000 in
set_option maxHeartbeats 2000000 in
theorem rimage_at (h : RefAt w r M G) : Calls Try.prog 24 #[.pointer (some ⟨r, 0, none⟩)] w fun e w' =>
    ∃ v, e = .returned v ∧ w'.ownsRow 0 5 1 v M.st.flatten.length (u8s M.st.flatten) ∧ (∀ k, v.ownBlock = some k → w.heap.size ≤ k) ∧ Kp (fun _ => False) w w' := by
  obtain ⟨hok, sv, wv, ss, ws, hP⟩ := h
  obtain ⟨gs, cs, rfl, -, -, -, -⟩ := hP.sslice hok
  have hm : (M.st.length : Int) ≤ 2048 := by have := hok.most; omega
  have hbs := run_bs0
  have HP := Hd.mk hP
  have Hok := Hd.mk hok
  have He := Hd.mk (ownsRow_empty w)
  clear hP hok
  go_enter Try.func24, Try.ntmps24
  go_wp2_with fail
  go_loopw [3, 4] (fun v3 v4 wr => ∃ k : Nat, v4 = .int .i64 k ∧ k ≤ M.st.length ∧ Hd (wr.ownsRow 0 5 1 v3 (imgUpto M.st k).length (u8s (imgUpto M.st k))) ∧ Hd (∀ b, v3.ownBlock = some b → w.heap.size ≤ b) ∧ Hd (Kp (fun _ => False) w wr)) (fun _ v4 _ => M.st.length - (intOf v4).toNat)
  case atStart => exact ⟨0, rfl, Nat.zero_le _, He, ⟨fun b hb => by simp [Value.ownBlock] at hb; omega⟩, ⟨(Kp.refl _ _).alloc _⟩⟩
  case round =>
    obtain ⟨k, rfl, hk, HO, HF, HK⟩ := hrel
    have hPr := HP.out.keep HK.out (fun _ _ => id)
    have c0 := hPr.c0
    by_cases hlt : k < M.st.length
    · have hltI : (k : Int) < (M.st.length : Int) := by omega
      have Hlt := Hd.mk hlt
      obtain ⟨g', c', e, -, hrr, -, -⟩ := hPr.sslice Hok.out
      injection e with e1 e2 e3
      injection e1 with e1
      injection e1 with e1
      subst e1
      clear e2 e3
      have hqs : k < ss.length := by have := hPr.slen; omega
      have hpg := hPr.spg k _ (List.getElem?_eq_getElem hqs)
      have hc3 : wr.cell? ⟨gs, k, none⟩ = some ss[k] := by
        have := hrr k _ (List.getElem?_eq_getElem hqs)
        rw [Nat.zero_add] at this; exact this
      have hsuc := Hd.mk (imgUpto_succ M.st k hlt)
      have hl0 := imgUpto_length M.st Hok.out.st k hk
      have hbig := Nat.mul_le_mul_right 256 (show k + 1 ≤ M.st.length from hlt)
      have hcap := Hd.mk (show (imgUpto M.st k).length + (M.st.getD k []).length ≤ 1000000000000 by rw [hl0, hpg.len]; omega)
      obtain ⟨gv, cv, hv, -⟩ := hpg.slice
      have Hbs := Hd.mk hpg.bs
      generalize M.st.getD k [] = pg at *
      generalize ss[k] = v at *
      subst hv
      clear hlt hk hPr hrr hqs hpg hl0 hbig
      go_wp2_with (first
        | ((with_reducible refine wl_appendBs rfl (.tmp 15) (.tmp 22) 23 rfl 5 Try.underlying23 info5z cells5z _ (imgUpto M.st k) rfl ?_ (.slice (some ⟨gv, 0, none⟩) 256 cv) pg rfl Hbs.out hcap.out ?_); exact HO.out; intro v9 w9 h91 h92 h93; have H91 := Hd.mk h91; have H92 := Hd.mk h92; have H93 := Hd.mk h93; clear h91 h92 h93))
      exact ⟨⟨k + 1, by go_num, Hlt.out, ⟨by rw [hsuc.out]; exact H91.out⟩, ⟨fun b hb => by
        rcases H93.out b hb with h | h
        · exact HF.out b h
        · have := HK.out.size; omega⟩, ⟨HK.out.andThen H92.out (fun i hi e => by have := HF.out i e; omega)⟩⟩, by have := Hlt.out; simp [intOf]; omega⟩
    · have e : k = M.st.length := by omega
      subst e
      have hO := HO.out
      rw [show imgUpto M.st M.st.length = M.st.flatten by simp [imgUpto]] at hO
      have HB := Hd.mk hO
      clear hlt hk HO hO hPr
      go_wp2_with fail
      go_ret
      exact ⟨_, rfl, HB.out, HF.out, HK.out⟩
end
end Go.Proofs.Ytkcechpaeilaeaa
