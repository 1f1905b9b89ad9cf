/- The reference's device: Crash. -/
import Derived.Test.YtkcechpaeilaeaaR4
import Derived.Test.YtkcechpaeilaeaaD7
namespace Go.Proofs.Ytkcechpaeilaeaa
open Go.RowKit
set_option linter.unusedVariables false
set_option linter.unusedSimpArgs false
/-- A page's slice as bytes, spelt out. -/
theorem Pg.bs' {w : World} {G : Nat → Prop} {g c : Nat} {l : List Int} (h : Pg w G (.slice (some ⟨g, 0, none⟩) 256 c) l) : w.rangeAt g 0 (u8s l) ∧ l.length = 256 ∧ 256 ≤ c := by
  obtain ⟨g', c', e, hc, hr⟩ := h.slice
  injection e with e1 e2 e3
  injection e1 with e1
  injection e1 with e1
  subst e1 e3
  exact ⟨hr, h.len, hc⟩
theorem er_hi_bs {w : World} {g c n : Nat} {l : List Int} (h : w.rangeAt g 0 (u8s l) ∧ l.length = 256 ∧ 256 ≤ c) (hn : n ≤ 256) : Bs w (.slice (some ⟨g, 0, none⟩) n c) (l.take n) := by
  obtain ⟨hr, hl, hc⟩ := h
  refine ⟨some ⟨g, 0, none⟩, c, by rw [List.length_take, Nat.min_eq_left (by omega)], by rw [List.length_take]; omega, .inr ⟨g, 0, rfl, fun j v hv => hr j v ?_⟩⟩
  rw [u8s_get, List.getElem?_take] at hv
  split at hv
  · rw [u8s_get]; exact hv
  · cases hv
theorem er_lo_bs {w : World} {g c n : Nat} {l : List Int} (h : w.rangeAt g 0 (u8s l) ∧ l.length = 256 ∧ 256 ≤ c) (hn : n ≤ 256) : Bs w (.slice (some ⟨g, if c = n then 0 else 0 + n * 1, none⟩) (256 - n) (c - n)) (l.drop n) := by
  obtain ⟨hr, hl, hc⟩ := h
  refine ⟨_, c - n, by rw [List.length_drop, hl], by rw [List.length_drop]; omega, ?_⟩
  by_cases e : n = 256
  · left; exact List.drop_of_length_le (by omega)
  · right
    refine ⟨g, n, by rw [if_neg (by omega)]; simp, fun j v hv => ?_⟩
    have := hr (n + j) v (by rw [u8s_get, List.getElem?_drop] at hv; rw [u8s_get]; exact hv)
    rw [Nat.zero_add] at this
    exact this
theorem crash_grow {wr w5 : World} {r : Nat} {N : DM} {G : Nat → Prop} {sv wv v : Value} {sk : List Value} {ws : List (Nat × Value)} {l : List Int} (h : RefP wr r N G sv wv sk ws) (k : Kp (fun _ => False) wr w5) (hv : w5.ownsRow 0 5 1 v 256 (u8s l)) (hf : ∀ k, v.ownBlock = some k → wr.heap.size ≤ k) :
    RefP w5 r N (fun x => G x ∨ (wr.heap.size ≤ x ∧ x < w5.heap.size)) sv wv sk ws ∧ Pg w5 (fun x => G x ∨ (wr.heap.size ≤ x ∧ x < w5.heap.size)) v l :=
  ⟨(h.keep k (fun _ _ => id)).grow (fun _ => .inl) (fun x hx => by
    rcases hx with hx | hx
    · have := h.lt x hx; have := k.size; omega
    · exact hx.2), hv, fun x hx => .inr ⟨hf x hx, (hv.lt x hx).2⟩⟩
theorem crash_next {w5 : World} {r : Nat} {M : DM} {G : Nat → Prop} {st st2 : List (List Int)} {gs cs q : Nat} {wv v : Value} {sk : List Value} {ws : List (Nat × Value)} {l : List Int} (h : RefP w5 r (withSt M st) G (.slice (some ⟨gs, 0, none⟩) M.st.length cs) wv sk ws ∧ Pg w5 G v l) (hq : q < M.st.length) (hlen : st.length = M.st.length) (he : st2 = st.set q l) :
    Hd (RefP (w5.setCell ⟨gs, q, none⟩ v) r (withSt M st2) G (.slice (some ⟨gs, 0, none⟩) M.st.length cs) wv (sk.set q v) ws) ∧ Kp G w5 (w5.setCell ⟨gs, q, none⟩ v) := by
  obtain ⟨h1, h2⟩ := h
  have hl0 : (withSt M st).st.length = M.st.length := hlen
  rw [← hl0] at h1
  have := h1.setS h2 (p := q) (by rw [hl0]; exact hq)
  rw [hl0] at this
  subst he
  exact ⟨⟨this.1⟩, this.2⟩
section
variable {w : World} {r : Nat} {M : DM} {G : Nat → Prop}
set_option maxHeartbeats 4000000 in
theorem rcrash_at (h : RefAt w r M G) {v : Value} {pick : List Int} (hv : Bs w v pick) (hb : Bytes pick) (hF : pick ≠ [] → ∀ k, v.ownBlock = some k → ¬ G k) :
    Calls Try.prog 46 #[.pointer (some ⟨r, 0, none⟩), v] w fun e w' => e = .returned (.tuple #[]) ∧ (∃ G', RefAt w' r (crashM M pick) G' ∧ ∀ k, G' k → G k ∨ w.heap.size ≤ k) ∧ Kp G w w' := by
  obtain ⟨hok, sv, wv, ss, ws, hP⟩ := h
  obtain ⟨gs, cs, rfl, -, -, -, -⟩ := hP.sslice hok
  obtain ⟨A, cw, rfl, -⟩ := ownsRow_len hP.wrow
  obtain ⟨PA, cP, rfl, hcP, hpr⟩ := hv
  have Hpr := Hd.mk hpr
  have Hby := Hd.mk hb
  have HP := Hd.mk hP
  have Hok := Hd.mk hok
  have hmI : (M.ws.length : Int) ≤ 1073741824 := by have := hok.few; omega
  clear hP hok hb hpr
  go_enter Try.func46, Try.ntmps46
  go_wp2_with fail
  go_loopw [4] (fun v4 wr => ∃ (k : Nat) (sk : List Value) (Gk : Nat → Prop), v4 = .int .i64 k ∧ k ≤ M.ws.length ∧ Hd (RefP wr r (withSt M (crashUpto M.st M.ws pick k)) Gk (.slice (some ⟨gs, 0, none⟩) M.st.length cs) (.slice A M.ws.length cw) sk ws) ∧ Hd (∀ x, Gk x → G x ∨ w.heap.size ≤ x) ∧ Hd (Kp G w wr)) (fun v4 _ => M.ws.length - (intOf v4).toNat)
  case atStart => exact ⟨0, ss, G, rfl, Nat.zero_le _, HP, ⟨fun _ => .inl⟩, ⟨Kp.refl _ _⟩⟩
  case round =>
    obtain ⟨k, sk, Gk, rfl, hk, HD, HG, HK⟩ := hrel
    have c1 := HD.out.c1
    by_cases hlt : k < M.ws.length
    · have hltI : (k : Int) < (M.ws.length : Int) := by omega
      have Hlt := Hd.mk hlt
      have hil : k < ws.length := by rw [show ws.length = M.ws.length from HD.out.wlen]; exact hlt
      obtain ⟨g, c, hwv2, hc, -, hr⟩ := HD.out.wslice (i := k) hlt
      injection hwv2 with e1 e2 e3
      subst e1 e3
      clear e2
      obtain ⟨hx1, hpg⟩ := HD.out.wpg k _ (List.getElem?_eq_getElem hil)
      have hgd : (withSt M (crashUpto M.st M.ws pick k)).ws.getD k (0, []) = M.ws.getD k (0, []) := rfl
      rw [hgd] at hx1 hpg
      have hq : (M.ws.getD k (0, [])).1 < M.st.length := by
        rw [getD_at _ _ _ hlt]
        exact (Hok.out.ws _ (List.getElem_mem _)).1
      have hc1 : wr.cell? ⟨g, k * 2, none⟩ = some (.int .i64 (ws[k].1 : Int)) := hr 0 _ rfl
      have hc2 : wr.cell? ⟨g, k * 2 + 1, none⟩ = some ws[k].2 := hr 1 _ rfl
      rw [hx1] at hc1
      have hlen := (crashUpto_ok Hok.out pick k hk).1
      have hok2 := (crashUpto_ok Hok.out pick k hk).2
      have hl0 : (withSt M (crashUpto M.st M.ws pick k)).st.length = M.st.length := hlen
      obtain ⟨g', c', e, -, hrr, -, cur, hcur, -⟩ := HD.out.sslice (Hok.out.withSt hlen hok2)
      injection e with e1
      injection e1 with e1
      injection e1 with e1
      subst e1
      have hqs : (M.ws.getD k (0, [])).1 < sk.length := by have := HD.out.slen; omega
      have hpo := HD.out.spg (M.ws.getD k (0, [])).1 _ (List.getElem?_eq_getElem hqs)
      have hc3 : wr.cell? ⟨gs, (M.ws.getD k (0, [])).1, none⟩ = some (sk[(M.ws.getD k (0, [])).1]) := by
        have := hrr (M.ws.getD k (0, [])).1 _ (List.getElem?_eq_getElem hqs)
        rw [Nat.zero_add] at this; exact this
      have Hf3 : Hd (wr.frozen? ⟨gs, (M.ws.getD k (0, [])).1, none⟩ = false) := ⟨frozen_of_row wr gs _ cur 23 hcur⟩
      have Hgs : Hd (gs < wr.heap.size) := ⟨blk_lt hcur⟩
      have hnextA : Hd (crashUpto M.st M.ws pick (k + 1) = (crashUpto M.st M.ws pick k).set (M.ws.getD k (0, [])).1 ((M.ws.getD k (0, [])).2.take (many pick k) ++ ((withSt M (crashUpto M.st M.ws pick k)).st.getD (M.ws.getD k (0, [])).1 []).drop (many pick k))) := ⟨rfl⟩
      obtain ⟨gv, cv, hv1, hcv, -⟩ := hpg.slice
      obtain ⟨go, co, hv2, -, -⟩ := hpo.slice
      have Hcv := Hd.mk hcv
      have Hpv := Hd.mk hpg
      have Hpo := Hd.mk hpo
      have Hq := Hd.mk hq
      have Hlen := Hd.mk hlen
      have c0 := HD.out.c0
      generalize (withSt M (crashUpto M.st M.ws pick k)).st.getD (M.ws.getD k (0, [])).1 [] = ob at *
      generalize (M.ws.getD k (0, [])).2 = bb at *
      generalize sk[(M.ws.getD k (0, [])).1] = vo at *
      generalize (M.ws.getD k (0, [])).1 = q at *
      generalize ws[k].2 = vn at *
      subst hv1 hv2
      by_cases hin : k < pick.length
      · rcases Hpr.out with hp0 | ⟨pb, po, rfl, hpr⟩
        · rw [hp0] at hin; simp at hin
        have hpb0 : pb < w.heap.size := rangeAt_lt hpr (by intro e; have := congrArg List.length e; simp at this; subst this; simp at hin)
        have hcell : wr.cell? ⟨pb, po + k, none⟩ = some (.int .u8 pick[k]) :=
          rangeAt_keep hpr (HK.out.block pb hpb0 (hF (by rintro rfl; simp at hin) pb rfl)) _ _ (by rw [u8s_get, List.getElem?_eq_getElem hin]; rfl)
        have hinI : (k : Int) < (pick.length : Int) := by omega
        obtain ⟨hx0, hx1'⟩ := Hby.out _ (List.getElem_mem hin)
        have hnn := Hd.mk (show pick[k] % 5 * 64 = ((many pick k : Nat) : Int) by
          unfold many
          rw [if_pos hin, getD_at _ _ _ hin]
          have := Int.emod_nonneg pick[k] (show (5 : Int) ≠ 0 by omega)
          omega)
        have HnL := Hd.mk (many_le pick k)
        generalize hxx : pick[k] = x at hcell hx0 hx1' hnn
        clear hin hxx hpb0 hpr hlt hk hil hr hx1 hgd hq hlen hok2 hl0 hrr hcur hqs hpo hpg hcv hc
        go_wp2_with fail
        rw [hnn.out]
        generalize many pick k = n at *
        clear hnn hcell
        have hltN := Hlt.out
        have hqN := Hq.out
        have hcv := Hcv.out
        have hnl := HnL.out
        have hS : Hd ((fun W : World => W.cell? ⟨r, 0, none⟩ = some (.slice (some ⟨gs, 0, none⟩) M.st.length cs) ∧ W.cell? ⟨r, 1, none⟩ = some (.slice (some ⟨g, 0, none⟩) M.ws.length cw) ∧ W.cell? ⟨g, k * 2, none⟩ = some (.int .i64 (q : Int)) ∧ W.cell? ⟨g, k * 2 + 1, none⟩ = some (.slice (some ⟨gv, 0, none⟩) 256 cv) ∧ W.cell? ⟨gs, q, none⟩ = some (.slice (some ⟨go, 0, none⟩) 256 co)) wr.drew) := ⟨c0, c1, hc1, hc2, hc3⟩
        have hroL := Hd.mk (er_lo_bs Hpo.out.bs' (n := n) (by omega))
        obtain ⟨ro, hro⟩ : ∃ ro, (if co = n then 0 else 0 + n * 1) = ro := ⟨_, rfl⟩
        rw [hro] at hroL
        refine rn_begin (fun W : World => W.cell? ⟨r, 0, none⟩ = some (.slice (some ⟨gs, 0, none⟩) M.st.length cs) ∧ W.cell? ⟨r, 1, none⟩ = some (.slice (some ⟨g, 0, none⟩) M.ws.length cw) ∧ W.cell? ⟨g, k * 2, none⟩ = some (.int .i64 (q : Int)) ∧ W.cell? ⟨g, k * 2 + 1, none⟩ = some (.slice (some ⟨gv, 0, none⟩) 256 cv) ∧ W.cell? ⟨gs, q, none⟩ = some (.slice (some ⟨go, 0, none⟩) 256 co)) (List.range 39) (by kernel_rfl) ?_
        refine rn_take (i := 0) (dst := some 26) (v := .pointer (some ⟨r, 0, none⟩)) rfl (by kernel_rfl) (fun _ _ _ h => h) rfl rfl (fun W hW => ex_move W _ _ rfl rfl) hS.out ?_
        simp only [Act.put, List.setIfInBounds_toArray, List.set_cons_zero, List.set_cons_succ]
        refine rn_take (i := 1) (dst := some 27) (v := .pointer (some ⟨r, 0, none⟩)) rfl (by kernel_rfl) (fun _ _ _ h => h) rfl rfl (fun W hW => ex_nilCheck W _ _ rfl rfl) hS.out ?_
        simp only [Act.put, List.setIfInBounds_toArray, List.set_cons_zero, List.set_cons_succ]
        refine rn_take (i := 2) (dst := some 28) (v := .pointer (some ⟨r, 0, none⟩)) rfl (by kernel_rfl) (fun _ _ _ h => h) rfl rfl (fun W hW => er_field W 78 0 _ rfl r 0 0 0 0 (by first | rfl | omega) Try.underlying78 rfl (by kernel_rfl) rfl rfl) hS.out ?_
        simp only [Act.put, List.setIfInBounds_toArray, List.set_cons_zero, List.set_cons_succ]
        refine rn_take (i := 3) (dst := some 29) (v := .slice (some ⟨gs, 0, none⟩) M.st.length cs) rfl (by kernel_rfl) (fun _ _ _ h => h) rfl rfl (fun W hW => ex_load W 42 _ _ rfl ⟨r, 0, none⟩ Try.underlying42 rfl rfl (hW.1)) hS.out ?_
        simp only [Act.put, List.setIfInBounds_toArray, List.set_cons_zero, List.set_cons_succ]
        refine rn_take (i := 4) (dst := some 30) (v := .pointer (some ⟨r, 0, none⟩)) rfl (by kernel_rfl) (fun _ _ _ h => h) rfl rfl (fun W hW => ex_move W _ _ rfl rfl) hS.out ?_
        simp only [Act.put, List.setIfInBounds_toArray, List.set_cons_zero, List.set_cons_succ]
        refine rn_take (i := 5) (dst := some 31) (v := .pointer (some ⟨r, 0, none⟩)) rfl (by kernel_rfl) (fun _ _ _ h => h) rfl rfl (fun W hW => ex_nilCheck W _ _ rfl rfl) hS.out ?_
        simp only [Act.put, List.setIfInBounds_toArray, List.set_cons_zero, List.set_cons_succ]
        refine rn_take (i := 6) (dst := some 32) (v := .pointer (some ⟨r, 1, none⟩)) rfl (by kernel_rfl) (fun _ _ _ h => h) rfl rfl (fun W hW => er_field W 78 1 _ rfl r 0 0 1 1 (by first | rfl | omega) Try.underlying78 rfl (by kernel_rfl) rfl rfl) hS.out ?_
        simp only [Act.put, List.setIfInBounds_toArray, List.set_cons_zero, List.set_cons_succ]
        refine rn_take (i := 7) (dst := some 33) (v := .slice (some ⟨g, 0, none⟩) M.ws.length cw) rfl (by kernel_rfl) (fun _ _ _ h => h) rfl rfl (fun W hW => ex_load W 76 _ _ rfl ⟨r, 1, none⟩ Try.underlying76 rfl rfl (hW.2.1)) hS.out ?_
        simp only [Act.put, List.setIfInBounds_toArray, List.set_cons_zero, List.set_cons_succ]
        refine rn_take (i := 8) (dst := some 34) (v := .int .i64 ((k : Nat) : Int)) rfl (by kernel_rfl) (fun _ _ _ h => h) rfl rfl (fun W hW => ex_move W _ _ rfl rfl) hS.out ?_
        simp only [Act.put, List.setIfInBounds_toArray, List.set_cons_zero, List.set_cons_succ]
        refine rn_take (i := 9) (dst := some 35) (v := .pointer (some ⟨g, k * 2, none⟩)) rfl (by kernel_rfl) (fun _ _ _ h => h) rfl rfl (fun W hW => er_index W 76 85 _ _ rfl 2 k Try.underlying76 (by kernel_rfl) g 0 _ _ (k * 2) (by first | rfl | omega) rfl .i64 rfl (by omega)) hS.out ?_
        simp only [Act.put, List.setIfInBounds_toArray, List.set_cons_zero, List.set_cons_succ]
        refine rn_take (i := 10) (dst := some 36) (v := .pointer (some ⟨g, k * 2, none⟩)) rfl (by kernel_rfl) (fun _ _ _ h => h) rfl rfl (fun W hW => er_field W 85 0 _ rfl g (k * 2) 0 0 (k * 2) (by first | rfl | omega) Try.underlying85 rfl (by kernel_rfl) rfl rfl) hS.out ?_
        simp only [Act.put, List.setIfInBounds_toArray, List.set_cons_zero, List.set_cons_succ]
        refine rn_take (i := 11) (dst := some 37) (v := .int .i64 ((q : Nat) : Int)) rfl (by kernel_rfl) (fun _ _ _ h => h) rfl rfl (fun W hW => ex_load W 3 _ _ rfl ⟨g, k * 2, none⟩ Try.underlying3 rfl rfl (hW.2.2.1)) hS.out ?_
        simp only [Act.put, List.setIfInBounds_toArray, List.set_cons_zero, List.set_cons_succ]
        refine rn_take (i := 12) (dst := some 38) (v := .pointer (some ⟨r, 0, none⟩)) rfl (by kernel_rfl) (fun _ _ _ h => h) rfl rfl (fun W hW => ex_move W _ _ rfl rfl) hS.out ?_
        simp only [Act.put, List.setIfInBounds_toArray, List.set_cons_zero, List.set_cons_succ]
        refine rn_take (i := 13) (dst := some 39) (v := .pointer (some ⟨r, 0, none⟩)) rfl (by kernel_rfl) (fun _ _ _ h => h) rfl rfl (fun W hW => ex_nilCheck W _ _ rfl rfl) hS.out ?_
        simp only [Act.put, List.setIfInBounds_toArray, List.set_cons_zero, List.set_cons_succ]
        refine rn_take (i := 14) (dst := some 40) (v := .pointer (some ⟨r, 1, none⟩)) rfl (by kernel_rfl) (fun _ _ _ h => h) rfl rfl (fun W hW => er_field W 78 1 _ rfl r 0 0 1 1 (by first | rfl | omega) Try.underlying78 rfl (by kernel_rfl) rfl rfl) hS.out ?_
        simp only [Act.put, List.setIfInBounds_toArray, List.set_cons_zero, List.set_cons_succ]
        refine rn_take (i := 15) (dst := some 41) (v := .slice (some ⟨g, 0, none⟩) M.ws.length cw) rfl (by kernel_rfl) (fun _ _ _ h => h) rfl rfl (fun W hW => ex_load W 76 _ _ rfl ⟨r, 1, none⟩ Try.underlying76 rfl rfl (hW.2.1)) hS.out ?_
        simp only [Act.put, List.setIfInBounds_toArray, List.set_cons_zero, List.set_cons_succ]
        refine rn_take (i := 16) (dst := some 42) (v := .int .i64 ((k : Nat) : Int)) rfl (by kernel_rfl) (fun _ _ _ h => h) rfl rfl (fun W hW => ex_move W _ _ rfl rfl) hS.out ?_
        simp only [Act.put, List.setIfInBounds_toArray, List.set_cons_zero, List.set_cons_succ]
        refine rn_take (i := 17) (dst := some 43) (v := .pointer (some ⟨g, k * 2, none⟩)) rfl (by kernel_rfl) (fun _ _ _ h => h) rfl rfl (fun W hW => er_index W 76 85 _ _ rfl 2 k Try.underlying76 (by kernel_rfl) g 0 _ _ (k * 2) (by first | rfl | omega) rfl .i64 rfl (by omega)) hS.out ?_
        simp only [Act.put, List.setIfInBounds_toArray, List.set_cons_zero, List.set_cons_succ]
        refine rn_take (i := 18) (dst := some 44) (v := .pointer (some ⟨g, k * 2 + 1, none⟩)) rfl (by kernel_rfl) (fun _ _ _ h => h) rfl rfl (fun W hW => er_field W 85 1 _ rfl g (k * 2) 0 1 (k * 2 + 1) (by first | rfl | omega) Try.underlying85 rfl (by kernel_rfl) rfl rfl) hS.out ?_
        simp only [Act.put, List.setIfInBounds_toArray, List.set_cons_zero, List.set_cons_succ]
        refine rn_take (i := 19) (dst := some 45) (v := .slice (some ⟨gv, 0, none⟩) 256 cv) rfl (by kernel_rfl) (fun _ _ _ h => h) rfl rfl (fun W hW => ex_load W 23 _ _ rfl ⟨g, k * 2 + 1, none⟩ Try.underlying23 rfl rfl (hW.2.2.2.1)) hS.out ?_
        simp only [Act.put, List.setIfInBounds_toArray, List.set_cons_zero, List.set_cons_succ]
        refine rn_take (i := 20) (dst := some 46) (v := .int .i64 ((n : Nat) : Int)) rfl (by kernel_rfl) (fun _ _ _ h => h) rfl rfl (fun W hW => ex_move W _ _ rfl rfl) hS.out ?_
        simp only [Act.put, List.setIfInBounds_toArray, List.set_cons_zero, List.set_cons_succ]
        refine rn_take (i := 21) (dst := some 47) (v := .slice (some ⟨gv, 0, none⟩) n cv) rfl (by kernel_rfl) (fun _ _ _ h => h) rfl rfl (fun W hW => ex_cutHi W 23 _ _ rfl Try.underlying23 1 (by kernel_rfl) gv 0 256 cv n rfl .i64 rfl (by omega)) hS.out ?_
        simp only [Act.put, List.setIfInBounds_toArray, List.set_cons_zero, List.set_cons_succ]
        refine rn_take (i := 22) (dst := some 48) (v := .pointer (some ⟨r, 0, none⟩)) rfl (by kernel_rfl) (fun _ _ _ h => h) rfl rfl (fun W hW => ex_move W _ _ rfl rfl) hS.out ?_
        simp only [Act.put, List.setIfInBounds_toArray, List.set_cons_zero, List.set_cons_succ]
        refine rn_take (i := 23) (dst := some 49) (v := .pointer (some ⟨r, 0, none⟩)) rfl (by kernel_rfl) (fun _ _ _ h => h) rfl rfl (fun W hW => ex_nilCheck W _ _ rfl rfl) hS.out ?_
        simp only [Act.put, List.setIfInBounds_toArray, List.set_cons_zero, List.set_cons_succ]
        refine rn_take (i := 24) (dst := some 50) (v := .pointer (some ⟨r, 0, none⟩)) rfl (by kernel_rfl) (fun _ _ _ h => h) rfl rfl (fun W hW => er_field W 78 0 _ rfl r 0 0 0 0 (by first | rfl | omega) Try.underlying78 rfl (by kernel_rfl) rfl rfl) hS.out ?_
        simp only [Act.put, List.setIfInBounds_toArray, List.set_cons_zero, List.set_cons_succ]
        refine rn_take (i := 25) (dst := some 51) (v := .slice (some ⟨gs, 0, none⟩) M.st.length cs) rfl (by kernel_rfl) (fun _ _ _ h => h) rfl rfl (fun W hW => ex_load W 42 _ _ rfl ⟨r, 0, none⟩ Try.underlying42 rfl rfl (hW.1)) hS.out ?_
        simp only [Act.put, List.setIfInBounds_toArray, List.set_cons_zero, List.set_cons_succ]
        refine rn_take (i := 26) (dst := some 52) (v := .pointer (some ⟨r, 0, none⟩)) rfl (by kernel_rfl) (fun _ _ _ h => h) rfl rfl (fun W hW => ex_move W _ _ rfl rfl) hS.out ?_
        simp only [Act.put, List.setIfInBounds_toArray, List.set_cons_zero, List.set_cons_succ]
        refine rn_take (i := 27) (dst := some 53) (v := .pointer (some ⟨r, 0, none⟩)) rfl (by kernel_rfl) (fun _ _ _ h => h) rfl rfl (fun W hW => ex_nilCheck W _ _ rfl rfl) hS.out ?_
        simp only [Act.put, List.setIfInBounds_toArray, List.set_cons_zero, List.set_cons_succ]
        refine rn_take (i := 28) (dst := some 54) (v := .pointer (some ⟨r, 1, none⟩)) rfl (by kernel_rfl) (fun _ _ _ h => h) rfl rfl (fun W hW => er_field W 78 1 _ rfl r 0 0 1 1 (by first | rfl | omega) Try.underlying78 rfl (by kernel_rfl) rfl rfl) hS.out ?_
        simp only [Act.put, List.setIfInBounds_toArray, List.set_cons_zero, List.set_cons_succ]
        refine rn_take (i := 29) (dst := some 55) (v := .slice (some ⟨g, 0, none⟩) M.ws.length cw) rfl (by kernel_rfl) (fun _ _ _ h => h) rfl rfl (fun W hW => ex_load W 76 _ _ rfl ⟨r, 1, none⟩ Try.underlying76 rfl rfl (hW.2.1)) hS.out ?_
        simp only [Act.put, List.setIfInBounds_toArray, List.set_cons_zero, List.set_cons_succ]
        refine rn_take (i := 30) (dst := some 56) (v := .int .i64 ((k : Nat) : Int)) rfl (by kernel_rfl) (fun _ _ _ h => h) rfl rfl (fun W hW => ex_move W _ _ rfl rfl) hS.out ?_
        simp only [Act.put, List.setIfInBounds_toArray, List.set_cons_zero, List.set_cons_succ]
        refine rn_take (i := 31) (dst := some 57) (v := .pointer (some ⟨g, k * 2, none⟩)) rfl (by kernel_rfl) (fun _ _ _ h => h) rfl rfl (fun W hW => er_index W 76 85 _ _ rfl 2 k Try.underlying76 (by kernel_rfl) g 0 _ _ (k * 2) (by first | rfl | omega) rfl .i64 rfl (by omega)) hS.out ?_
        simp only [Act.put, List.setIfInBounds_toArray, List.set_cons_zero, List.set_cons_succ]
        refine rn_take (i := 32) (dst := some 58) (v := .pointer (some ⟨g, k * 2, none⟩)) rfl (by kernel_rfl) (fun _ _ _ h => h) rfl rfl (fun W hW => er_field W 85 0 _ rfl g (k * 2) 0 0 (k * 2) (by first | rfl | omega) Try.underlying85 rfl (by kernel_rfl) rfl rfl) hS.out ?_
        simp only [Act.put, List.setIfInBounds_toArray, List.set_cons_zero, List.set_cons_succ]
        refine rn_take (i := 33) (dst := some 59) (v := .int .i64 ((q : Nat) : Int)) rfl (by kernel_rfl) (fun _ _ _ h => h) rfl rfl (fun W hW => ex_load W 3 _ _ rfl ⟨g, k * 2, none⟩ Try.underlying3 rfl rfl (hW.2.2.1)) hS.out ?_
        simp only [Act.put, List.setIfInBounds_toArray, List.set_cons_zero, List.set_cons_succ]
        refine rn_take (i := 34) (dst := some 60) (v := .pointer (some ⟨gs, q, none⟩)) rfl (by kernel_rfl) (fun _ _ _ h => h) rfl rfl (fun W hW => er_index W 42 23 _ _ rfl 1 q Try.underlying42 (by kernel_rfl) gs 0 _ _ q (by first | rfl | omega) rfl .i64 rfl (by omega)) hS.out ?_
        simp only [Act.put, List.setIfInBounds_toArray, List.set_cons_zero, List.set_cons_succ]
        refine rn_take (i := 35) (dst := some 61) (v := .slice (some ⟨go, 0, none⟩) 256 co) rfl (by kernel_rfl) (fun _ _ _ h => h) rfl rfl (fun W hW => ex_load W 23 _ _ rfl ⟨gs, q, none⟩ Try.underlying23 rfl rfl (hW.2.2.2.2)) hS.out ?_
        simp only [Act.put, List.setIfInBounds_toArray, List.set_cons_zero, List.set_cons_succ]
        refine rn_take (i := 36) (dst := some 62) (v := .int .i64 ((n : Nat) : Int)) rfl (by kernel_rfl) (fun _ _ _ h => h) rfl rfl (fun W hW => ex_move W _ _ rfl rfl) hS.out ?_
        simp only [Act.put, List.setIfInBounds_toArray, List.set_cons_zero, List.set_cons_succ]
        refine rn_take (i := 37) (dst := some 63) (v := .slice (some ⟨go, ro, none⟩) (256 - n) (co - n)) rfl (by kernel_rfl) (fun _ _ _ h => h) rfl rfl (fun W hW => er_cutLoAny W 23 _ _ rfl Try.underlying23 1 (by kernel_rfl) go 0 256 co n ro hro rfl .i64 rfl (by omega)) hS.out ?_
        simp only [Act.put, List.setIfInBounds_toArray, List.set_cons_zero, List.set_cons_succ]
        refine rn_one (i := 38) (dst := some 64) rfl (by kernel_rfl) rfl rfl (fun K hK => ?_)
        refine ow_call 47 _ _ rfl Try.func47 (by kernel_rfl) (by kernel_rfl) [.slice (some ⟨gv, 0, none⟩) n cv, .slice (some ⟨go, ro, none⟩) (256 - n) (co - n)] rfl (join_at (w := wr.drew) (lb := ob.drop n) ((er_hi_bs Hpv.out.bs' (n := n) (by omega)).keep (w' := wr.drew) (fun _ _ _ => rfl)) (hroL.out.keep (w' := wr.drew) (fun _ _ _ => rfl)) (by simp; have := Hpo.out.len; have := Hpv.out.len; omega)) ?_
        rintro e w5 ⟨v5, rfl, h51, h52, h53⟩
        have k5 : Kp (fun _ => False) wr w5 := Kp.trans ((Kp.refl _ wr).drew) h53
        have e5 : (bb.take n ++ ob.drop n).length = 256 := by simp; have := Hpo.out.len; have := Hpv.out.len; omega
        rw [e5] at h51
        have HD5 := Hd.mk (crash_grow HD.out k5 h51 h52)
        obtain ⟨A5, n5, e6, -⟩ := ownsRow_len h51
        subst e6
        have Hs5 := HD5.out.1.c0
        have hS5 : Hd ((fun W : World => W.cell? ⟨r, 0, none⟩ = some (.slice (some ⟨gs, 0, none⟩) M.st.length cs) ∧ W.cell? ⟨r, 1, none⟩ = some (.slice (some ⟨g, 0, none⟩) M.ws.length cw) ∧ W.cell? ⟨g, k * 2, none⟩ = some (.int .i64 (q : Int)) ∧ W.cell? ⟨g, k * 2 + 1, none⟩ = some (.slice (some ⟨gv, 0, none⟩) 256 cv) ∧ W.cell? ⟨gs, q, none⟩ = some (.slice (some ⟨go, 0, none⟩) 256 co)) w5) := by
          obtain ⟨a1, a2, a3, a4, a5⟩ := hS.out
          have old : ∀ b o u, wr.drew.cell? ⟨b, o, none⟩ = some u → w5.cell? ⟨b, o, none⟩ = some u := fun b o u h => (World.cell?_of_block (k5.block b (World.block_lt_of_cell? wr.drew _ h) id)).trans h
          exact ⟨old _ _ _ a1, old _ _ _ a2, old _ _ _ a3, old _ _ _ a4, old _ _ _ a5⟩
        have Hc5 := Hd.mk hS5.out
        have Hf5 : Hd (w5.frozen? ⟨gs, q, none⟩ = false) := ⟨(World.frozen?_of_block (k5.block gs Hgs.out id)).trans Hf3.out⟩
        refine ⟨_, rfl, hK _ _ (fun _ => hS5.out) ?_⟩
        clear hK K hS Hs5
        have hS := hS5
        simp only [Act.put, List.setIfInBounds_toArray, List.set_cons_zero, List.set_cons_succ]
        refine rn_take (i := 39) (dst := some 65) (v := .pointer (some ⟨gs, q, none⟩)) rfl (by kernel_rfl) (fun _ _ _ h => h) rfl rfl (fun W hW => er_index W 42 23 _ _ rfl 1 q Try.underlying42 (by kernel_rfl) gs 0 _ _ q (by first | rfl | omega) rfl .i64 rfl (by omega)) hS.out ?_
        simp only [Act.put, List.setIfInBounds_toArray, List.set_cons_zero, List.set_cons_succ]
        refine rn_one (i := 40) (dst := none) rfl (by kernel_rfl) rfl rfl (fun K hK => ?_)
        refine ow_store 23 _ _ (.slice A5 256 n5) (.slice (some ⟨go, 0, none⟩) 256 co) rfl ⟨gs, q, none⟩ (by kernel_rfl) rfl rfl rfl rfl Hc5.out.2.2.2.2 Hf5.out (hK _ _ (fun h => by simp at h) ?_)
        clear hK K hS hS5 hltN hqN hro hcv hnl
        refine rn_done (by kernel_rfl) ?_ _
        simp only [Act.put, List.setIfInBounds_toArray, List.set_cons_zero, List.set_cons_succ]
        have HN := Hd.mk (crash_next HD5.out Hq.out Hlen.out hnextA.out)
        have HK5 := Hd.mk (HK.out.andThen k5 (fun _ _ h => h.elim))
        have Hsz5 := Hd.mk k5.size
        clear HD5 Hc5 Hf5 h51 h52 h53 k5 e5
        generalize (w5.setCell ⟨gs, q, none⟩ (.slice A5 256 n5)) = w6 at *
        go_wp2_with fail
        exact ⟨⟨k + 1, _, _, by go_num, Hlt.out, HN.out.1, ⟨fun x hx => by
          rcases hx with hx | hx
          · exact HG.out x hx
          · have := HK.out.size; exact .inr (by omega)⟩, ⟨HK5.out.andThen HN.out.2 (fun x hl hx => by
          rcases hx with hx | hx
          · rcases HG.out x hx with h | h
            · exact h
            · omega
          · have := HK.out.size; omega)⟩⟩, by have := Hlt.out; simp [intOf]; omega⟩
      · have hinI : decide ((k : Int) < (pick.length : Int)) = false := by simp; omega
        have hge : (pick.length : Int) ≤ (k : Int) := by omega
        have hm0 : many pick k = 0 := by unfold many; rw [if_neg hin]
        have hnextB := hnextA
        rw [hm0] at hnextB
        have HnL : Hd (0 ≤ 256) := ⟨by omega⟩
        clear hm0 hin hlt hk hil hr hx1 hgd hq hlen hok2 hl0 hrr hcur hqs hpo hpg hcv hc
        go_wp2_with fail
        have hltN := Hlt.out
        have hqN := Hq.out
        have hcv := Hcv.out
        have hnl := HnL.out
        have hS : Hd ((fun W : World => W.cell? ⟨r, 0, none⟩ = some (.slice (some ⟨gs, 0, none⟩) M.st.length cs) ∧ W.cell? ⟨r, 1, none⟩ = some (.slice (some ⟨g, 0, none⟩) M.ws.length cw) ∧ W.cell? ⟨g, k * 2, none⟩ = some (.int .i64 (q : Int)) ∧ W.cell? ⟨g, k * 2 + 1, none⟩ = some (.slice (some ⟨gv, 0, none⟩) 256 cv) ∧ W.cell? ⟨gs, q, none⟩ = some (.slice (some ⟨go, 0, none⟩) 256 co)) wr.drew) := ⟨c0, c1, hc1, hc2, hc3⟩
        have hroL := Hd.mk (er_lo_bs Hpo.out.bs' (n := 0) (by omega))
        obtain ⟨ro, hro⟩ : ∃ ro, (if co = 0 then 0 else 0 + 0 * 1) = ro := ⟨_, rfl⟩
        rw [hro] at hroL
        refine rn_begin (fun W : World => W.cell? ⟨r, 0, none⟩ = some (.slice (some ⟨gs, 0, none⟩) M.st.length cs) ∧ W.cell? ⟨r, 1, none⟩ = some (.slice (some ⟨g, 0, none⟩) M.ws.length cw) ∧ W.cell? ⟨g, k * 2, none⟩ = some (.int .i64 (q : Int)) ∧ W.cell? ⟨g, k * 2 + 1, none⟩ = some (.slice (some ⟨gv, 0, none⟩) 256 cv) ∧ W.cell? ⟨gs, q, none⟩ = some (.slice (some ⟨go, 0, none⟩) 256 co)) (List.range 39) (by kernel_rfl) ?_
        refine rn_take (i := 0) (dst := some 26) (v := .pointer (some ⟨r, 0, none⟩)) rfl (by kernel_rfl) (fun _ _ _ h => h) rfl rfl (fun W hW => ex_move W _ _ rfl rfl) hS.out ?_
        simp only [Act.put, List.setIfInBounds_toArray, List.set_cons_zero, List.set_cons_succ]
        refine rn_take (i := 1) (dst := some 27) (v := .pointer (some ⟨r, 0, none⟩)) rfl (by kernel_rfl) (fun _ _ _ h => h) rfl rfl (fun W hW => ex_nilCheck W _ _ rfl rfl) hS.out ?_
        simp only [Act.put, List.setIfInBounds_toArray, List.set_cons_zero, List.set_cons_succ]
        refine rn_take (i := 2) (dst := some 28) (v := .pointer (some ⟨r, 0, none⟩)) rfl (by kernel_rfl) (fun _ _ _ h => h) rfl rfl (fun W hW => er_field W 78 0 _ rfl r 0 0 0 0 (by first | rfl | omega) Try.underlying78 rfl (by kernel_rfl) rfl rfl) hS.out ?_
        simp only [Act.put, List.setIfInBounds_toArray, List.set_cons_zero, List.set_cons_succ]
        refine rn_take (i := 3) (dst := some 29) (v := .slice (some ⟨gs, 0, none⟩) M.st.length cs) rfl (by kernel_rfl) (fun _ _ _ h => h) rfl rfl (fun W hW => ex_load W 42 _ _ rfl ⟨r, 0, none⟩ Try.underlying42 rfl rfl (hW.1)) hS.out ?_
        simp only [Act.put, List.setIfInBounds_toArray, List.set_cons_zero, List.set_cons_succ]
        refine rn_take (i := 4) (dst := some 30) (v := .pointer (some ⟨r, 0, none⟩)) rfl (by kernel_rfl) (fun _ _ _ h => h) rfl rfl (fun W hW => ex_move W _ _ rfl rfl) hS.out ?_
        simp only [Act.put, List.setIfInBounds_toArray, List.set_cons_zero, List.set_cons_succ]
        refine rn_take (i := 5) (dst := some 31) (v := .pointer (some ⟨r, 0, none⟩)) rfl (by kernel_rfl) (fun _ _ _ h => h) rfl rfl (fun W hW => ex_nilCheck W _ _ rfl rfl) hS.out ?_
        simp only [Act.put, List.setIfInBounds_toArray, List.set_cons_zero, List.set_cons_succ]
        refine rn_take (i := 6) (dst := some 32) (v := .pointer (some ⟨r, 1, none⟩)) rfl (by kernel_rfl) (fun _ _ _ h => h) rfl rfl (fun W hW => er_field W 78 1 _ rfl r 0 0 1 1 (by first | rfl | omega) Try.underlying78 rfl (by kernel_rfl) rfl rfl) hS.out ?_
        simp only [Act.put, List.setIfInBounds_toArray, List.set_cons_zero, List.set_cons_succ]
        refine rn_take (i := 7) (dst := some 33) (v := .slice (some ⟨g, 0, none⟩) M.ws.length cw) rfl (by kernel_rfl) (fun _ _ _ h => h) rfl rfl (fun W hW => ex_load W 76 _ _ rfl ⟨r, 1, none⟩ Try.underlying76 rfl rfl (hW.2.1)) hS.out ?_
        simp only [Act.put, List.setIfInBounds_toArray, List.set_cons_zero, List.set_cons_succ]
        refine rn_take (i := 8) (dst := some 34) (v := .int .i64 ((k : Nat) : Int)) rfl (by kernel_rfl) (fun _ _ _ h => h) rfl rfl (fun W hW => ex_move W _ _ rfl rfl) hS.out ?_
        simp only [Act.put, List.setIfInBounds_toArray, List.set_cons_zero, List.set_cons_succ]
        refine rn_take (i := 9) (dst := some 35) (v := .pointer (some ⟨g, k * 2, none⟩)) rfl (by kernel_rfl) (fun _ _ _ h => h) rfl rfl (fun W hW => er_index W 76 85 _ _ rfl 2 k Try.underlying76 (by kernel_rfl) g 0 _ _ (k * 2) (by first | rfl | omega) rfl .i64 rfl (by omega)) hS.out ?_
        simp only [Act.put, List.setIfInBounds_toArray, List.set_cons_zero, List.set_cons_succ]
        refine rn_take (i := 10) (dst := some 36) (v := .pointer (some ⟨g, k * 2, none⟩)) rfl (by kernel_rfl) (fun _ _ _ h => h) rfl rfl (fun W hW => er_field W 85 0 _ rfl g (k * 2) 0 0 (k * 2) (by first | rfl | omega) Try.underlying85 rfl (by kernel_rfl) rfl rfl) hS.out ?_
        simp only [Act.put, List.setIfInBounds_toArray, List.set_cons_zero, List.set_cons_succ]
        refine rn_take (i := 11) (dst := some 37) (v := .int .i64 ((q : Nat) : Int)) rfl (by kernel_rfl) (fun _ _ _ h => h) rfl rfl (fun W hW => ex_load W 3 _ _ rfl ⟨g, k * 2, none⟩ Try.underlying3 rfl rfl (hW.2.2.1)) hS.out ?_
        simp only [Act.put, List.setIfInBounds_toArray, List.set_cons_zero, List.set_cons_succ]
        refine rn_take (i := 12) (dst := some 38) (v := .pointer (some ⟨r, 0, none⟩)) rfl (by kernel_rfl) (fun _ _ _ h => h) rfl rfl (fun W hW => ex_move W _ _ rfl rfl) hS.out ?_
        simp only [Act.put, List.setIfInBounds_toArray, List.set_cons_zero, List.set_cons_succ]
        refine rn_take (i := 13) (dst := some 39) (v := .pointer (some ⟨r, 0, none⟩)) rfl (by kernel_rfl) (fun _ _ _ h => h) rfl rfl (fun W hW => ex_nilCheck W _ _ rfl rfl) hS.out ?_
        simp only [Act.put, List.setIfInBounds_toArray, List.set_cons_zero, List.set_cons_succ]
        refine rn_take (i := 14) (dst := some 40) (v := .pointer (some ⟨r, 1, none⟩)) rfl (by kernel_rfl) (fun _ _ _ h => h) rfl rfl (fun W hW => er_field W 78 1 _ rfl r 0 0 1 1 (by first | rfl | omega) Try.underlying78 rfl (by kernel_rfl) rfl rfl) hS.out ?_
        simp only [Act.put, List.setIfInBounds_toArray, List.set_cons_zero, List.set_cons_succ]
        refine rn_take (i := 15) (dst := some 41) (v := .slice (some ⟨g, 0, none⟩) M.ws.length cw) rfl (by kernel_rfl) (fun _ _ _ h => h) rfl rfl (fun W hW => ex_load W 76 _ _ rfl ⟨r, 1, none⟩ Try.underlying76 rfl rfl (hW.2.1)) hS.out ?_
        simp only [Act.put, List.setIfInBounds_toArray, List.set_cons_zero, List.set_cons_succ]
        refine rn_take (i := 16) (dst := some 42) (v := .int .i64 ((k : Nat) : Int)) rfl (by kernel_rfl) (fun _ _ _ h => h) rfl rfl (fun W hW => ex_move W _ _ rfl rfl) hS.out ?_
        simp only [Act.put, List.setIfInBounds_toArray, List.set_cons_zero, List.set_cons_succ]
        refine rn_take (i := 17) (dst := some 43) (v := .pointer (some ⟨g, k * 2, none⟩)) rfl (by kernel_rfl) (fun _ _ _ h => h) rfl rfl (fun W hW => er_index W 76 85 _ _ rfl 2 k Try.underlying76 (by kernel_rfl) g 0 _ _ (k * 2) (by first | rfl | omega) rfl .i64 rfl (by omega)) hS.out ?_
        simp only [Act.put, List.setIfInBounds_toArray, List.set_cons_zero, List.set_cons_succ]
        refine rn_take (i := 18) (dst := some 44) (v := .pointer (some ⟨g, k * 2 + 1, none⟩)) rfl (by kernel_rfl) (fun _ _ _ h => h) rfl rfl (fun W hW => er_field W 85 1 _ rfl g (k * 2) 0 1 (k * 2 + 1) (by first | rfl | omega) Try.underlying85 rfl (by kernel_rfl) rfl rfl) hS.out ?_
        simp only [Act.put, List.setIfInBounds_toArray, List.set_cons_zero, List.set_cons_succ]
        refine rn_take (i := 19) (dst := some 45) (v := .slice (some ⟨gv, 0, none⟩) 256 cv) rfl (by kernel_rfl) (fun _ _ _ h => h) rfl rfl (fun W hW => ex_load W 23 _ _ rfl ⟨g, k * 2 + 1, none⟩ Try.underlying23 rfl rfl (hW.2.2.2.1)) hS.out ?_
        simp only [Act.put, List.setIfInBounds_toArray, List.set_cons_zero, List.set_cons_succ]
        refine rn_take (i := 20) (dst := some 46) (v := .int .i64 0) rfl (by kernel_rfl) (fun _ _ _ h => h) rfl rfl (fun W hW => ex_move W _ _ rfl rfl) hS.out ?_
        simp only [Act.put, List.setIfInBounds_toArray, List.set_cons_zero, List.set_cons_succ]
        refine rn_take (i := 21) (dst := some 47) (v := .slice (some ⟨gv, 0, none⟩) 0 cv) rfl (by kernel_rfl) (fun _ _ _ h => h) rfl rfl (fun W hW => ex_cutHi W 23 _ _ rfl Try.underlying23 1 (by kernel_rfl) gv 0 256 cv 0 rfl .i64 rfl (by omega)) hS.out ?_
        simp only [Act.put, List.setIfInBounds_toArray, List.set_cons_zero, List.set_cons_succ]
        refine rn_take (i := 22) (dst := some 48) (v := .pointer (some ⟨r, 0, none⟩)) rfl (by kernel_rfl) (fun _ _ _ h => h) rfl rfl (fun W hW => ex_move W _ _ rfl rfl) hS.out ?_
        simp only [Act.put, List.setIfInBounds_toArray, List.set_cons_zero, List.set_cons_succ]
        refine rn_take (i := 23) (dst := some 49) (v := .pointer (some ⟨r, 0, none⟩)) rfl (by kernel_rfl) (fun _ _ _ h => h) rfl rfl (fun W hW => ex_nilCheck W _ _ rfl rfl) hS.out ?_
        simp only [Act.put, List.setIfInBounds_toArray, List.set_cons_zero, List.set_cons_succ]
        refine rn_take (i := 24) (dst := some 50) (v := .pointer (some ⟨r, 0, none⟩)) rfl (by kernel_rfl) (fun _ _ _ h => h) rfl rfl (fun W hW => er_field W 78 0 _ rfl r 0 0 0 0 (by first | rfl | omega) Try.underlying78 rfl (by kernel_rfl) rfl rfl) hS.out ?_
        simp only [Act.put, List.setIfInBounds_toArray, List.set_cons_zero, List.set_cons_succ]
        refine rn_take (i := 25) (dst := some 51) (v := .slice (some ⟨gs, 0, none⟩) M.st.length cs) rfl (by kernel_rfl) (fun _ _ _ h => h) rfl rfl (fun W hW => ex_load W 42 _ _ rfl ⟨r, 0, none⟩ Try.underlying42 rfl rfl (hW.1)) hS.out ?_
        simp only [Act.put, List.setIfInBounds_toArray, List.set_cons_zero, List.set_cons_succ]
        refine rn_take (i := 26) (dst := some 52) (v := .pointer (some ⟨r, 0, none⟩)) rfl (by kernel_rfl) (fun _ _ _ h => h) rfl rfl (fun W hW => ex_move W _ _ rfl rfl) hS.out ?_
        simp only [Act.put, List.setIfInBounds_toArray, List.set_cons_zero, List.set_cons_succ]
        refine rn_take (i := 27) (dst := some 53) (v := .pointer (some ⟨r, 0, none⟩)) rfl (by kernel_rfl) (fun _ _ _ h => h) rfl rfl (fun W hW => ex_nilCheck W _ _ rfl rfl) hS.out ?_
        simp only [Act.put, List.setIfInBounds_toArray, List.set_cons_zero, List.set_cons_succ]
        refine rn_take (i := 28) (dst := some 54) (v := .pointer (some ⟨r, 1, none⟩)) rfl (by kernel_rfl) (fun _ _ _ h => h) rfl rfl (fun W hW => er_field W 78 1 _ rfl r 0 0 1 1 (by first | rfl | omega) Try.underlying78 rfl (by kernel_rfl) rfl rfl) hS.out ?_
        simp only [Act.put, List.setIfInBounds_toArray, List.set_cons_zero, List.set_cons_succ]
        refine rn_take (i := 29) (dst := some 55) (v := .slice (some ⟨g, 0, none⟩) M.ws.length cw) rfl (by kernel_rfl) (fun _ _ _ h => h) rfl rfl (fun W hW => ex_load W 76 _ _ rfl ⟨r, 1, none⟩ Try.underlying76 rfl rfl (hW.2.1)) hS.out ?_
        simp only [Act.put, List.setIfInBounds_toArray, List.set_cons_zero, List.set_cons_succ]
        refine rn_take (i := 30) (dst := some 56) (v := .int .i64 ((k : Nat) : Int)) rfl (by kernel_rfl) (fun _ _ _ h => h) rfl rfl (fun W hW => ex_move W _ _ rfl rfl) hS.out ?_
        simp only [Act.put, List.setIfInBounds_toArray, List.set_cons_zero, List.set_cons_succ]
        refine rn_take (i := 31) (dst := some 57) (v := .pointer (some ⟨g, k * 2, none⟩)) rfl (by kernel_rfl) (fun _ _ _ h => h) rfl rfl (fun W hW => er_index W 76 85 _ _ rfl 2 k Try.underlying76 (by kernel_rfl) g 0 _ _ (k * 2) (by first | rfl | omega) rfl .i64 rfl (by omega)) hS.out ?_
        simp only [Act.put, List.setIfInBounds_toArray, List.set_cons_zero, List.set_cons_succ]
        refine rn_take (i := 32) (dst := some 58) (v := .pointer (some ⟨g, k * 2, none⟩)) rfl (by kernel_rfl) (fun _ _ _ h => h) rfl rfl (fun W hW => er_field W 85 0 _ rfl g (k * 2) 0 0 (k * 2) (by first | rfl | omega) Try.underlying85 rfl (by kernel_rfl) rfl rfl) hS.out ?_
        simp only [Act.put, List.setIfInBounds_toArray, List.set_cons_zero, List.set_cons_succ]
        refine rn_take (i := 33) (dst := some 59) (v := .int .i64 ((q : Nat) : Int)) rfl (by kernel_rfl) (fun _ _ _ h => h) rfl rfl (fun W hW => ex_load W 3 _ _ rfl ⟨g, k * 2, none⟩ Try.underlying3 rfl rfl (hW.2.2.1)) hS.out ?_
        simp only [Act.put, List.setIfInBounds_toArray, List.set_cons_zero, List.set_cons_succ]
        refine rn_take (i := 34) (dst := some 60) (v := .pointer (some ⟨gs, q, none⟩)) rfl (by kernel_rfl) (fun _ _ _ h => h) rfl rfl (fun W hW => er_index W 42 23 _ _ rfl 1 q Try.underlying42 (by kernel_rfl) gs 0 _ _ q (by first | rfl | omega) rfl .i64 rfl (by omega)) hS.out ?_
        simp only [Act.put, List.setIfInBounds_toArray, List.set_cons_zero, List.set_cons_succ]
        refine rn_take (i := 35) (dst := some 61) (v := .slice (some ⟨go, 0, none⟩) 256 co) rfl (by kernel_rfl) (fun _ _ _ h => h) rfl rfl (fun W hW => ex_load W 23 _ _ rfl ⟨gs, q, none⟩ Try.underlying23 rfl rfl (hW.2.2.2.2)) hS.out ?_
        simp only [Act.put, List.setIfInBounds_toArray, List.set_cons_zero, List.set_cons_succ]
        refine rn_take (i := 36) (dst := some 62) (v := .int .i64 0) rfl (by kernel_rfl) (fun _ _ _ h => h) rfl rfl (fun W hW => ex_move W _ _ rfl rfl) hS.out ?_
        simp only [Act.put, List.setIfInBounds_toArray, List.set_cons_zero, List.set_cons_succ]
        refine rn_take (i := 37) (dst := some 63) (v := .slice (some ⟨go, ro, none⟩) (256 - 0) (co - 0)) rfl (by kernel_rfl) (fun _ _ _ h => h) rfl rfl (fun W hW => er_cutLoAny W 23 _ _ rfl Try.underlying23 1 (by kernel_rfl) go 0 256 co 0 ro hro rfl .i64 rfl (by omega)) hS.out ?_
        simp only [Act.put, List.setIfInBounds_toArray, List.set_cons_zero, List.set_cons_succ]
        refine rn_one (i := 38) (dst := some 64) rfl (by kernel_rfl) rfl rfl (fun K hK => ?_)
        refine ow_call 47 _ _ rfl Try.func47 (by kernel_rfl) (by kernel_rfl) [.slice (some ⟨gv, 0, none⟩) 0 cv, .slice (some ⟨go, ro, none⟩) (256 - 0) (co - 0)] rfl (join_at (w := wr.drew) (lb := ob.drop 0) ((er_hi_bs Hpv.out.bs' (n := 0) (by omega)).keep (w' := wr.drew) (fun _ _ _ => rfl)) (hroL.out.keep (w' := wr.drew) (fun _ _ _ => rfl)) (by simp; have := Hpo.out.len; have := Hpv.out.len; omega)) ?_
        rintro e w5 ⟨v5, rfl, h51, h52, h53⟩
        have k5 : Kp (fun _ => False) wr w5 := Kp.trans ((Kp.refl _ wr).drew) h53
        have e5 : (bb.take 0 ++ ob.drop 0).length = 256 := by simp; have := Hpo.out.len; have := Hpv.out.len; omega
        rw [e5] at h51
        have HD5 := Hd.mk (crash_grow HD.out k5 h51 h52)
        obtain ⟨A5, n5, e6, -⟩ := ownsRow_len h51
        subst e6
        have Hs5 := HD5.out.1.c0
        have hS5 : Hd ((fun W : World => W.cell? ⟨r, 0, none⟩ = some (.slice (some ⟨gs, 0, none⟩) M.st.length cs) ∧ W.cell? ⟨r, 1, none⟩ = some (.slice (some ⟨g, 0, none⟩) M.ws.length cw) ∧ W.cell? ⟨g, k * 2, none⟩ = some (.int .i64 (q : Int)) ∧ W.cell? ⟨g, k * 2 + 1, none⟩ = some (.slice (some ⟨gv, 0, none⟩) 256 cv) ∧ W.cell? ⟨gs, q, none⟩ = some (.slice (some ⟨go, 0, none⟩) 256 co)) w5) := by
          obtain ⟨a1, a2, a3, a4, a5⟩ := hS.out
          have old : ∀ b o u, wr.drew.cell? ⟨b, o, none⟩ = some u → w5.cell? ⟨b, o, none⟩ = some u := fun b o u h => (World.cell?_of_block (k5.block b (World.block_lt_of_cell? wr.drew _ h) id)).trans h
          exact ⟨old _ _ _ a1, old _ _ _ a2, old _ _ _ a3, old _ _ _ a4, old _ _ _ a5⟩
        have Hc5 := Hd.mk hS5.out
        have Hf5 : Hd (w5.frozen? ⟨gs, q, none⟩ = false) := ⟨(World.frozen?_of_block (k5.block gs Hgs.out id)).trans Hf3.out⟩
        refine ⟨_, rfl, hK _ _ (fun _ => hS5.out) ?_⟩
        clear hK K hS Hs5
        have hS := hS5
        simp only [Act.put, List.setIfInBounds_toArray, List.set_cons_zero, List.set_cons_succ]
        refine rn_take (i := 39) (dst := some 65) (v := .pointer (some ⟨gs, q, none⟩)) rfl (by kernel_rfl) (fun _ _ _ h => h) rfl rfl (fun W hW => er_index W 42 23 _ _ rfl 1 q Try.underlying42 (by kernel_rfl) gs 0 _ _ q (by first | rfl | omega) rfl .i64 rfl (by omega)) hS.out ?_
        simp only [Act.put, List.setIfInBounds_toArray, List.set_cons_zero, List.set_cons_succ]
        refine rn_one (i := 40) (dst := none) rfl (by kernel_rfl) rfl rfl (fun K hK => ?_)
        refine ow_store 23 _ _ (.slice A5 256 n5) (.slice (some ⟨go, 0, none⟩) 256 co) rfl ⟨gs, q, none⟩ (by kernel_rfl) rfl rfl rfl rfl Hc5.out.2.2.2.2 Hf5.out (hK _ _ (fun h => by simp at h) ?_)
        clear hK K hS hS5 hltN hqN hro hcv hnl
        refine rn_done (by kernel_rfl) ?_ _
        simp only [Act.put, List.setIfInBounds_toArray, List.set_cons_zero, List.set_cons_succ]
        have HN := Hd.mk (crash_next HD5.out Hq.out Hlen.out hnextB.out)
        have HK5 := Hd.mk (HK.out.andThen k5 (fun _ _ h => h.elim))
        have Hsz5 := Hd.mk k5.size
        clear HD5 Hc5 Hf5 h51 h52 h53 k5 e5
        generalize (w5.setCell ⟨gs, q, none⟩ (.slice A5 256 n5)) = w6 at *
        go_wp2_with fail
        exact ⟨⟨k + 1, _, _, by go_num, Hlt.out, HN.out.1, ⟨fun x hx => by
          rcases hx with hx | hx
          · exact HG.out x hx
          · have := HK.out.size; exact .inr (by omega)⟩, ⟨HK5.out.andThen HN.out.2 (fun x hl hx => by
          rcases hx with hx | hx
          · rcases HG.out x hx with h | h
            · exact h
            · omega
          · have := HK.out.size; omega)⟩⟩, by have := Hlt.out; simp [intOf]; omega⟩
    · have e : k = M.ws.length := by omega
      subst e
      have f1 := HD.out.fr 1
      have f2 := HD.out.fr 2
      have f3 := HD.out.fr 3
      have c2 := HD.out.c2
      have c3 := HD.out.c3
      obtain ⟨h1, h2⟩ := crashUpto_ok Hok.out pick M.ws.length (Nat.le_refl _)
      have hokf := Hd.mk (Hok.out.withSt h1 h2).wake
      clear hlt hk h1 h2
      go_wp2_with fail
      refine bodyPost_end (results_none rfl _ _ _) rfl ⟨rfl, ⟨Gk, ⟨hokf.out, _, _, _, _, HD.out.clear (M' := crashM M pick) ((((Kp.refl _ _).cell _ _).cell _ _).cell _ _) rfl rfl (((HD.out.blk.set 1 (.slice none 0 0)).set 3 (.bool false)).set 2 (.int .i64 (-1)))⟩, HG.out⟩, ?_⟩
      exact HK.out.andThen (S' := (· = r)) ((((Kp.refl _ _).cell _ _).cell _ _).cell _ _) (fun i hi e => e ▸ HP.out.gr)
end
end Go.Proofs.Ytkcechpaeilaeaa
