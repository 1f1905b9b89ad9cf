/- The reference's device: Sync. -/
import Derived.Test.YtkcechpaeilaeaaR3
import Derived.Test.YtkcechpaeilaeaaP1
import Derived.Laws.OwnMore
namespace Go.Proofs.Ytkcechpaeilaeaa
open Go.RowKit
set_option linter.unusedVariables false
set_option linter.unusedSimpArgs false
section
variable {w : World} {r : Nat} {M : DM} {G : Nat → Prop} {sv wv : Value} {ss : List Value} {ws : List (Nat × Value)}
/-- A page of S is another one. -/
theorem RefP.setS {g cs : Nat} (h : RefP w r M G (.slice (some ⟨g, 0, none⟩) M.st.length cs) wv ss ws) {p : Nat} {v : Value} {l : List Int} (hpg : Pg w G v l) (hp : p < M.st.length) :
    RefP (w.setCell ⟨g, p, none⟩ v) r (withSt M (M.st.set p l)) G (.slice (some ⟨g, 0, none⟩) M.st.length cs) wv (ss.set p v) ws ∧ Kp G w (w.setCell ⟨g, p, none⟩ v) := by
  have hset : ∀ k, k ≠ g → (w.setCell ⟨g, p, none⟩ v).heap[k]? = w.heap[k]? := fun k hk => heap_setCell_other w ⟨g, p, none⟩ k v (fun e => hk e)
  have hgt : ∀ {u : Value} {m : List Int}, Pg w G u m → ∀ k, u.ownBlock = some k → k ≠ g := fun {u m} hu k hk e => by
    subst e
    obtain ⟨cells, hc⟩ := ownsRow_typed h.srow (k := k) rfl
    have := hu.type hk hc
    cases this
  have hkeep : ∀ {u : Value} {m : List Int}, Pg w G u m → Pg (w.setCell ⟨g, p, none⟩ v) G u m := fun {u m} hu => hu.keep (fun _ => id) (fun k hk => hset k (hgt hu k hk))
  have hst := World.ownsRow.stored h.srow p v
  refine ⟨⟨?_, ?_, ?_, ?_, h.wlen, fun i u hu => ?_, fun i x hx => ⟨(h.wpg i x hx).1, hkeep (h.wpg i x hx).2⟩, h.gr, h.gs, h.gw, fun k hk => by rw [World.size_setCell]; exact h.lt k hk⟩, (Kp.refl G w).setCell _ _ (.inr (h.gs g rfl))⟩
  · have hne : r ≠ g := fun e => h.s_ne (by rw [e]; rfl)
    have hl : (withSt M (M.st.set p l)).st.length = M.st.length := List.length_set
    exact h.blk.other _ _ hne
  · have hl : (withSt M (M.st.set p l)).st.length = M.st.length := List.length_set
    rw [hl]; exact hst.1
  · exact ownsRow_keep h.wrow (fun k hk _ => hset k (fun e => by
      subst e
      obtain ⟨cells, hc⟩ := ownsRow_typed h.srow (k := k) rfl
      have := ownsRow_type h.wrow hk hc
      cases this))
  · show (ss.set p v).length = (M.st.set p l).length
    rw [List.length_set, List.length_set]; exact h.slen
  · show Pg _ G u ((M.st.set p l).getD i [])
    by_cases e : p = i
    · subst e
      rw [List.getElem?_set_self (by rw [h.slen]; exact hp)] at hu
      injection hu with hu
      subst hu
      rw [List.getD_eq_getElem?_getD, List.getElem?_set_self hp]
      exact hkeep hpg
    · rw [List.getElem?_set_ne e] at hu
      rw [List.getD_eq_getElem?_getD, List.getElem?_set_ne e, ← List.getD_eq_getElem?_getD]
      exact hkeep (h.spg i u hu)
/-- Nothing waits any more. -/
theorem RefP.clear {w' : World} (h : RefP w r M G sv wv ss ws) {M' : DM} (hk : Kp (· = r) w w') (hst : M'.st = M.st) (hws : M'.ws = [])
    (hb : Blk w' r [sv, .slice none 0 0, .int .i64 (leftR M'), .bool M'.off, .int .i64 M'.ops] 78) : RefP w' r M' G sv (.slice none 0 0) ss [] where
  blk := hb
  srow := by rw [hst]; exact ownsRow_keep h.srow (fun k hk' hl => hk.block k hl (fun e => h.s_ne (by rw [hk', e])))
  wrow := by rw [hws]; exact ⟨rfl, .inl ⟨rfl, rfl⟩⟩
  slen := by rw [hst]; exact h.slen
  wlen := by rw [hws]; rfl
  spg := fun i v hv => by rw [hst]; exact (h.spg i v hv).keep (fun _ => id) (fun k hk' => hk.block k (h.lt k ((h.spg i v hv).2 k hk')) (fun e => h.p_ne (h.spg i v hv) (by rw [hk', e])))
  wpg := fun i x hx => by simp at hx
  gr := h.gr
  gs := h.gs
  gw := fun k hk => by simp [Value.ownBlock] at hk
  lt := fun k hk' => Nat.lt_of_lt_of_le (h.lt k hk') hk.size
theorem RefP.grow (h : RefP w r M G sv wv ss ws) {G' : Nat → Prop} (hG : ∀ k, G k → G' k) (hl : ∀ k, G' k → k < w.heap.size) : RefP w r M G' sv wv ss ws where
  blk := h.blk
  srow := h.srow
  wrow := h.wrow
  slen := h.slen
  wlen := h.wlen
  spg := fun i v hv => ⟨(h.spg i v hv).1, fun k hk => hG k ((h.spg i v hv).2 k hk)⟩
  wpg := fun i x hx => ⟨(h.wpg i x hx).1, (h.wpg i x hx).2.1, fun k hk => hG k ((h.wpg i x hx).2.2 k hk)⟩
  gr := hG _ h.gr
  gs := fun k hk => hG k (h.gs k hk)
  gw := fun k hk => hG k (h.gw k hk)
  lt := hl
end
/-- The stable pages when the first k writes that wait are stable. -/
def syncUpto (st : List (List Int)) (ws : List (Nat × List Int)) : Nat → List (List Int)
  | 0 => st
  | k + 1 => (syncUpto st ws k).set (ws.getD k (0, [])).1 (ws.getD k (0, [])).2
theorem syncUpto_length (st : List (List Int)) (ws : List (Nat × List Int)) (k : Nat) : (syncUpto st ws k).length = st.length := by
  induction k with
  | zero => rfl
  | succ k ih => rw [syncUpto, List.length_set, ih]
theorem syncUpto_ok {M : DM} (h : M.Ok) (k : Nat) (hk : k ≤ M.ws.length) : ∀ b ∈ syncUpto M.st M.ws k, b.length = 256 := by
  induction k with
  | zero => exact h.st
  | succ k ih =>
    intro b hb
    rw [syncUpto] at hb
    rcases List.mem_or_eq_of_mem_set hb with hb | rfl
    · exact ih (by omega) b hb
    · rw [getD_at _ _ _ (show k < M.ws.length from hk)]
      exact (h.ws _ (List.getElem_mem _)).2
theorem sync_upto (M : DM) (hok : M.Ok) (k : Nat) (hk : k ≤ M.ws.length) : syncUpto M.st M.ws k = (List.range M.st.length).map fun p => shownM { M with ws := M.ws.take k } p := by
  induction k with
  | zero =>
    apply List.ext_getElem?
    intro p
    simp only [syncUpto, List.take_zero, List.getElem?_map]
    rcases Nat.lt_or_ge p M.st.length with hp | hp
    · rw [List.getElem?_range hp]
      simp only [Option.map_some, shownM, lastI]
      rw [getD_at _ _ _ hp, List.getElem?_eq_getElem hp]
    · rw [List.getElem?_eq_none hp, List.getElem?_eq_none (by simpa using hp)]; rfl
  | succ k ih =>
    have hk' : k < M.ws.length := hk
    have hx := hok.ws _ (List.getElem_mem hk')
    rw [syncUpto, ih (by omega), getD_at _ _ _ hk']
    apply List.ext_getElem?
    intro p
    rw [List.getElem?_set]
    rcases Nat.lt_or_ge p M.st.length with hp | hp
    · simp only [List.getElem?_map, List.getElem?_range hp, Option.map_some, List.length_map, List.length_range]
      rw [shown_take M k hk' p]
      by_cases h : (M.ws[k]).1 = p
      · rw [if_pos h, if_pos h, if_pos (by omega)]
      · rw [if_neg h, if_neg h]
    · rw [if_neg (by have := hx.1; omega)]
      rw [List.getElem?_eq_none (by simpa using hp), List.getElem?_eq_none (by simpa using hp)]
theorem sync_whole (M : DM) (hok : M.Ok) : syncUpto M.st M.ws M.ws.length = shownAll M := by
  rw [sync_upto M hok _ (Nat.le_refl _), List.take_length]
  rfl
section
variable {w : World} {r : Nat} {M : DM} {G : Nat → Prop}
set_option maxHeartbeats 2000000 in
theorem rsync_at (h : RefAt w r M G) (hops : M.ops < 1073741824) : Calls Try.prog 43 #[.pointer (some ⟨r, 0, none⟩)] w fun e w' => e = .returned (.int .i64 (syncE M)) ∧ RefAt w' r (syncM M) G ∧ Kp G w w' := by
  have hself := Hd.mk h
  have hgoes := goes_at h hops
  have hE : Hd (syncE M = if M.off = true then 5 else if spendsB M = true then 0 else 5) := ⟨rfl⟩
  have hM : Hd (syncM M = if M.off = true then M else if spendsB M = true then settleM (withSt (spendsM M) (shownAll M)) else spendsM M) := ⟨rfl⟩
  obtain ⟨hok, sv, wv, ss, ws, hP⟩ := h
  have c3 := hP.c3
  have Hgr := Hd.mk hP.gr
  have hsokw := hok.spends hops
  clear hP
  cases hoff : M.off
  · rw [hoff] at c3
    cases hsp : spendsB M
    · have hE2 : Hd (syncE M = 5) := ⟨by rw [hE.out, hoff, hsp]; rfl⟩
      have hM2 : Hd (syncM M = spendsM M) := ⟨by rw [hM.out, hoff, hsp]; rfl⟩
      rw [hsp] at hgoes
      have hgoes := Hd.mk hgoes
      clear hoff hsp hok hsokw
      go_enter Try.func43, Try.ntmps43
      go_wp2_with (first | (go_at_call 53; refine hgoes.out.mono ?_; rintro e w' ⟨rfl, hD5, hk5⟩; have HD5 := Hd.mk hD5; have HK5 := Hd.mk hk5; clear hD5 hk5))
      go_ret
      exact ⟨ret_int (by rw [hE2.out]), by rw [hM2.out]; exact HD5.out, HK5.out.mono (fun k _ e => e ▸ Hgr.out)⟩
    · have hE2 : Hd (syncE M = 0) := ⟨by rw [hE.out, hoff, hsp]; rfl⟩
      have hM2 : Hd (syncM M = settleM (withSt (spendsM M) (shownAll M))) := ⟨by rw [hM.out, hoff, hsp]; rfl⟩
      have hsa : shownAll M = shownAll (spendsM M) := by
        unfold spendsM
        split <;> rfl
      rw [hsa] at hM2
      rw [hsp] at hgoes
      have hgoes := Hd.mk hgoes
      have hmI : ((spendsM M).ws.length : Int) ≤ 1073741824 := by have := hsokw.few; omega
      have Hok1 := Hd.mk hsokw
      clear hoff hsp hok hsokw hsa
      generalize spendsM M = N at *
      go_enter Try.func43, Try.ntmps43
      go_wp2_with (first | (go_at_call 53; refine hgoes.out.mono ?_; rintro e w1 ⟨rfl, hD5, hk5⟩; have HD5 := Hd.mk hD5; have HK5 := Hd.mk hk5; clear hD5 hk5))
      have hD := HD5.out
      obtain ⟨-, sv, wv, ss, ws, hP⟩ := hD
      obtain ⟨gs, cs, rfl, -, -, -, -⟩ := hP.sslice Hok1.out
      obtain ⟨A, cw, rfl, -⟩ := ownsRow_len hP.wrow
      have HP := Hd.mk hP
      clear hP
      go_loopw [3] (fun v3 wr => ∃ (k : Nat) (sk : List Value), v3 = .int .i64 k ∧ k ≤ N.ws.length ∧ Hd (RefP wr r (withSt N (syncUpto N.st N.ws k)) G (.slice (some ⟨gs, 0, none⟩) N.st.length cs) (.slice A N.ws.length cw) sk ws) ∧ Hd (Kp G w1 wr)) (fun v3 _ => N.ws.length - (intOf v3).toNat)
      case atStart => exact ⟨0, ss, rfl, Nat.zero_le _, HP, ⟨Kp.refl _ _⟩⟩
      case round =>
        obtain ⟨k, sk, rfl, hk, HD, HK⟩ := hrel
        have c1 := HD.out.c1
        have hlw := Hd.mk HD.out.wlen
        by_cases hlt : k < N.ws.length
        · have hltI : (k : Int) < (N.ws.length : Int) := by omega
          have Hlt := Hd.mk hlt
          have hil : k < ws.length := by rw [show ws.length = N.ws.length from hlw.out]; exact hlt
          obtain ⟨g, c, hwv2, hc, -, hr⟩ := HD.out.wslice (i := k) hlt
          injection hwv2 with e1 e2 e3
          subst e1 e3
          clear e2
          obtain ⟨hx1, hpg⟩ := HD.out.wpg k _ (List.getElem?_eq_getElem hil)
          have hgd : (withSt N (syncUpto N.st N.ws k)).ws.getD k (0, []) = N.ws.getD k (0, []) := rfl
          rw [hgd] at hx1 hpg
          have hq : (N.ws.getD k (0, [])).1 < N.st.length := by
            rw [getD_at _ _ _ hlt]
            exact (Hok1.out.ws _ (List.getElem_mem _)).1
          have hc1 : wr.cell? ⟨g, k * 2, none⟩ = some (.int .i64 (ws[k].1 : Int)) := hr 0 _ rfl
          have hc2 : wr.cell? ⟨g, k * 2 + 1, none⟩ = some ws[k].2 := hr 1 _ rfl
          rw [hx1] at hc1
          have hnext : Hd (syncUpto N.st N.ws (k + 1) = (syncUpto N.st N.ws k).set (N.ws.getD k (0, [])).1 (N.ws.getD k (0, [])).2) := ⟨rfl⟩
          have hlen := syncUpto_length N.st N.ws k
          obtain ⟨gv, cv, hv, -⟩ := hpg.slice
          have Hpg := Hd.mk hpg
          have Hq := Hd.mk hq
          have Hlen := Hd.mk hlen
          generalize (N.ws.getD k (0, [])).2 = bb at *
          generalize (N.ws.getD k (0, [])).1 = q at *
          generalize ws[k].2 = v at *
          subst hv
          have hl0 : (withSt N (syncUpto N.st N.ws k)).st.length = N.st.length := hlen
          have hD0 := HD.out
          rw [← hl0] at hD0
          have hset := hD0.setS Hpg.out (p := q) (by rw [hl0]; exact hq)
          rw [hl0] at hset
          have Hset := Hd.mk hset
          have c0 := HD.out.c0
          have hcq : ∃ old, wr.cell? ⟨gs, q, none⟩ = some old ∧ wr.frozen? ⟨gs, q, none⟩ = false := by
            obtain ⟨g', c', e, -, hrr, -, cur, hcur, -⟩ := HD.out.sslice (Hok1.out.withSt hlen (syncUpto_ok Hok1.out k (by omega)))
            injection e with e1
            injection e1 with e1
            injection e1 with e1
            subst e1
            refine ⟨_, by have := hrr q _ (List.getElem?_eq_getElem (show q < sk.length by have := HD.out.slen; have h2 : (withSt N (syncUpto N.st N.ws k)).st.length = N.st.length := hlen; omega)); rw [Nat.zero_add] at this; exact this, frozen_of_row wr gs q cur 23 hcur⟩
          obtain ⟨old, hc3, hf3⟩ := hcq
          have Hc3 := Hd.mk hc3
          have Hf3 := Hd.mk hf3
          have hS : Hd ((fun W : World => W.cell? ⟨r, 0, none⟩ = some (.slice (some ⟨gs, 0, none⟩) N.st.length cs) ∧ W.cell? ⟨r, 1, none⟩ = some (.slice (some ⟨g, 0, none⟩) N.ws.length cw) ∧ W.cell? ⟨g, k * 2, none⟩ = some (.int .i64 (q : Int)) ∧ W.cell? ⟨g, k * 2 + 1, none⟩ = some (.slice (some ⟨gv, 0, none⟩) 256 cv)) wr.drew) := ⟨c0, c1, hc1, hc2⟩
          clear hlt hk hil hr hx1 hgd hq hlen hpg hset hc hc3 hf3 hc1 hc2 c0 hl0 hD0
          go_wp2_with fail
          have hltN := Hlt.out
          have hqN := Hq.out
          refine rn_begin (fun W : World => W.cell? ⟨r, 0, none⟩ = some (.slice (some ⟨gs, 0, none⟩) N.st.length cs) ∧ W.cell? ⟨r, 1, none⟩ = some (.slice (some ⟨g, 0, none⟩) N.ws.length cw) ∧ W.cell? ⟨g, k * 2, none⟩ = some (.int .i64 (q : Int)) ∧ W.cell? ⟨g, k * 2 + 1, none⟩ = some (.slice (some ⟨gv, 0, none⟩) 256 cv)) (List.range 20) (by kernel_rfl) ?_
          refine rn_take (i := 0) (dst := some 21) (v := .pointer (some ⟨r, 0, none⟩)) rfl (by kernel_rfl) (fun _ _ _ h => h) rfl rfl (fun W hW => ex_move W _ _ rfl rfl) hS.out ?_
          simp only [Act.put, List.setIfInBounds_toArray, List.set_cons_zero, List.set_cons_succ]
          refine rn_take (i := 1) (dst := some 22) (v := .pointer (some ⟨r, 0, none⟩)) rfl (by kernel_rfl) (fun _ _ _ h => h) rfl rfl (fun W hW => ex_nilCheck W _ _ rfl rfl) hS.out ?_
          simp only [Act.put, List.setIfInBounds_toArray, List.set_cons_zero, List.set_cons_succ]
          refine rn_take (i := 2) (dst := some 23) (v := .pointer (some ⟨r, 0, none⟩)) rfl (by kernel_rfl) (fun _ _ _ h => h) rfl rfl (fun W hW => er_field W 78 0 _ rfl r 0 0 0 0 (by first | rfl | omega) Try.underlying78 rfl (by kernel_rfl) rfl rfl) hS.out ?_
          simp only [Act.put, List.setIfInBounds_toArray, List.set_cons_zero, List.set_cons_succ]
          refine rn_take (i := 3) (dst := some 24) (v := .slice (some ⟨gs, 0, none⟩) N.st.length cs) rfl (by kernel_rfl) (fun _ _ _ h => h) rfl rfl (fun W hW => ex_load W 42 _ _ rfl ⟨r, 0, none⟩ Try.underlying42 rfl rfl (hW.1)) hS.out ?_
          simp only [Act.put, List.setIfInBounds_toArray, List.set_cons_zero, List.set_cons_succ]
          refine rn_take (i := 4) (dst := some 25) (v := .pointer (some ⟨r, 0, none⟩)) rfl (by kernel_rfl) (fun _ _ _ h => h) rfl rfl (fun W hW => ex_move W _ _ rfl rfl) hS.out ?_
          simp only [Act.put, List.setIfInBounds_toArray, List.set_cons_zero, List.set_cons_succ]
          refine rn_take (i := 5) (dst := some 26) (v := .pointer (some ⟨r, 0, none⟩)) rfl (by kernel_rfl) (fun _ _ _ h => h) rfl rfl (fun W hW => ex_nilCheck W _ _ rfl rfl) hS.out ?_
          simp only [Act.put, List.setIfInBounds_toArray, List.set_cons_zero, List.set_cons_succ]
          refine rn_take (i := 6) (dst := some 27) (v := .pointer (some ⟨r, 1, none⟩)) rfl (by kernel_rfl) (fun _ _ _ h => h) rfl rfl (fun W hW => er_field W 78 1 _ rfl r 0 0 1 1 (by first | rfl | omega) Try.underlying78 rfl (by kernel_rfl) rfl rfl) hS.out ?_
          simp only [Act.put, List.setIfInBounds_toArray, List.set_cons_zero, List.set_cons_succ]
          refine rn_take (i := 7) (dst := some 28) (v := .slice (some ⟨g, 0, none⟩) N.ws.length cw) rfl (by kernel_rfl) (fun _ _ _ h => h) rfl rfl (fun W hW => ex_load W 76 _ _ rfl ⟨r, 1, none⟩ Try.underlying76 rfl rfl (hW.2.1)) hS.out ?_
          simp only [Act.put, List.setIfInBounds_toArray, List.set_cons_zero, List.set_cons_succ]
          refine rn_take (i := 8) (dst := some 29) (v := .int .i64 ((k : Nat) : Int)) rfl (by kernel_rfl) (fun _ _ _ h => h) rfl rfl (fun W hW => ex_move W _ _ rfl rfl) hS.out ?_
          simp only [Act.put, List.setIfInBounds_toArray, List.set_cons_zero, List.set_cons_succ]
          refine rn_take (i := 9) (dst := some 30) (v := .pointer (some ⟨g, k * 2, none⟩)) rfl (by kernel_rfl) (fun _ _ _ h => h) rfl rfl (fun W hW => er_index W 76 85 _ _ rfl 2 k Try.underlying76 (by kernel_rfl) g 0 _ _ (k * 2) (by first | rfl | omega) rfl .i64 rfl (by omega)) hS.out ?_
          simp only [Act.put, List.setIfInBounds_toArray, List.set_cons_zero, List.set_cons_succ]
          refine rn_take (i := 10) (dst := some 31) (v := .pointer (some ⟨g, k * 2, none⟩)) rfl (by kernel_rfl) (fun _ _ _ h => h) rfl rfl (fun W hW => er_field W 85 0 _ rfl g (k * 2) 0 0 (k * 2) (by first | rfl | omega) Try.underlying85 rfl (by kernel_rfl) rfl rfl) hS.out ?_
          simp only [Act.put, List.setIfInBounds_toArray, List.set_cons_zero, List.set_cons_succ]
          refine rn_take (i := 11) (dst := some 32) (v := .int .i64 ((q : Nat) : Int)) rfl (by kernel_rfl) (fun _ _ _ h => h) rfl rfl (fun W hW => ex_load W 3 _ _ rfl ⟨g, k * 2, none⟩ Try.underlying3 rfl rfl (hW.2.2.1)) hS.out ?_
          simp only [Act.put, List.setIfInBounds_toArray, List.set_cons_zero, List.set_cons_succ]
          refine rn_take (i := 12) (dst := some 33) (v := .pointer (some ⟨r, 0, none⟩)) rfl (by kernel_rfl) (fun _ _ _ h => h) rfl rfl (fun W hW => ex_move W _ _ rfl rfl) hS.out ?_
          simp only [Act.put, List.setIfInBounds_toArray, List.set_cons_zero, List.set_cons_succ]
          refine rn_take (i := 13) (dst := some 34) (v := .pointer (some ⟨r, 0, none⟩)) rfl (by kernel_rfl) (fun _ _ _ h => h) rfl rfl (fun W hW => ex_nilCheck W _ _ rfl rfl) hS.out ?_
          simp only [Act.put, List.setIfInBounds_toArray, List.set_cons_zero, List.set_cons_succ]
          refine rn_take (i := 14) (dst := some 35) (v := .pointer (some ⟨r, 1, none⟩)) rfl (by kernel_rfl) (fun _ _ _ h => h) rfl rfl (fun W hW => er_field W 78 1 _ rfl r 0 0 1 1 (by first | rfl | omega) Try.underlying78 rfl (by kernel_rfl) rfl rfl) hS.out ?_
          simp only [Act.put, List.setIfInBounds_toArray, List.set_cons_zero, List.set_cons_succ]
          refine rn_take (i := 15) (dst := some 36) (v := .slice (some ⟨g, 0, none⟩) N.ws.length cw) rfl (by kernel_rfl) (fun _ _ _ h => h) rfl rfl (fun W hW => ex_load W 76 _ _ rfl ⟨r, 1, none⟩ Try.underlying76 rfl rfl (hW.2.1)) hS.out ?_
          simp only [Act.put, List.setIfInBounds_toArray, List.set_cons_zero, List.set_cons_succ]
          refine rn_take (i := 16) (dst := some 37) (v := .int .i64 ((k : Nat) : Int)) rfl (by kernel_rfl) (fun _ _ _ h => h) rfl rfl (fun W hW => ex_move W _ _ rfl rfl) hS.out ?_
          simp only [Act.put, List.setIfInBounds_toArray, List.set_cons_zero, List.set_cons_succ]
          refine rn_take (i := 17) (dst := some 38) (v := .pointer (some ⟨g, k * 2, none⟩)) rfl (by kernel_rfl) (fun _ _ _ h => h) rfl rfl (fun W hW => er_index W 76 85 _ _ rfl 2 k Try.underlying76 (by kernel_rfl) g 0 _ _ (k * 2) (by first | rfl | omega) rfl .i64 rfl (by omega)) hS.out ?_
          simp only [Act.put, List.setIfInBounds_toArray, List.set_cons_zero, List.set_cons_succ]
          refine rn_take (i := 18) (dst := some 39) (v := .pointer (some ⟨g, k * 2 + 1, none⟩)) rfl (by kernel_rfl) (fun _ _ _ h => h) rfl rfl (fun W hW => er_field W 85 1 _ rfl g (k * 2) 0 1 (k * 2 + 1) (by first | rfl | omega) Try.underlying85 rfl (by kernel_rfl) rfl rfl) hS.out ?_
          simp only [Act.put, List.setIfInBounds_toArray, List.set_cons_zero, List.set_cons_succ]
          refine rn_take (i := 19) (dst := some 40) (v := .slice (some ⟨gv, 0, none⟩) 256 cv) rfl (by kernel_rfl) (fun _ _ _ h => h) rfl rfl (fun W hW => ex_load W 23 _ _ rfl ⟨g, k * 2 + 1, none⟩ Try.underlying23 rfl rfl (hW.2.2.2)) hS.out ?_
          simp only [Act.put, List.setIfInBounds_toArray, List.set_cons_zero, List.set_cons_succ]
          refine rn_take (i := 20) (dst := some 41) (v := .pointer (some ⟨gs, q, none⟩)) rfl (by kernel_rfl) (fun _ _ _ h => h) rfl rfl (fun W hW => er_index W 42 23 _ _ rfl 1 q Try.underlying42 (by kernel_rfl) gs 0 _ _ q (by first | rfl | omega) rfl .i64 rfl (by omega)) hS.out ?_
          simp only [Act.put, List.setIfInBounds_toArray, List.set_cons_zero, List.set_cons_succ]
          refine rn_one (i := 21) (dst := none) rfl (by kernel_rfl) rfl rfl (fun K hK => ?_)
          refine ow_store 23 _ _ (.slice (some ⟨gv, 0, none⟩) 256 cv) old rfl ⟨gs, q, none⟩ (by kernel_rfl) rfl rfl rfl rfl Hc3.out Hf3.out (hK _ _ (fun h => by simp at h) ?_)
          clear hK K hS hltN hqN
          refine rn_done (by kernel_rfl) ?_ _
          simp only [Act.put, List.setIfInBounds_toArray, List.set_cons_zero, List.set_cons_succ]
          have HD2 : Hd (RefP ((wr.drew).setCell ⟨gs, q, none⟩ (.slice (some ⟨gv, 0, none⟩) 256 cv)) r (withSt N (syncUpto N.st N.ws (k + 1))) G (.slice (some ⟨gs, 0, none⟩) N.st.length cs) (.slice (some ⟨g, 0, none⟩) N.ws.length cw) (sk.set q (.slice (some ⟨gv, 0, none⟩) 256 cv)) ws) := ⟨by
            have := Hset.out.1
            rw [hnext.out]
            exact this.keep (X := fun _ => False) (w' := ((wr.drew).setCell ⟨gs, q, none⟩ (.slice (some ⟨gv, 0, none⟩) 256 cv))) ⟨rfl, rfl, rfl, Nat.le_refl _, fun _ _ _ => rfl⟩ (fun _ _ => id)⟩
          have HK2 : Hd (Kp G w1 ((wr.drew).setCell ⟨gs, q, none⟩ (.slice (some ⟨gv, 0, none⟩) 256 cv))) := ⟨(HK.out.drew).setCell _ _ (.inr (HD.out.gs gs rfl))⟩
          generalize (wr.drew).setCell ⟨gs, q, none⟩ (.slice (some ⟨gv, 0, none⟩) 256 cv) = w2 at *
          go_wp2_with fail
          exact ⟨⟨k + 1, _, by go_num, Hlt.out, HD2, HK2⟩, by have := Hlt.out; simp [intOf]; omega⟩
        · have e : k = N.ws.length := by omega
          subst e
          have hD := HD.out
          rw [sync_whole N Hok1.out] at hD
          have HD2 := Hd.mk hD
          have f1 := hD.fr 1
          clear hD HD hlt hk
          go_wp2_with fail
          go_ret
          refine ⟨ret_int (by rw [hE2.out]), ?_, (HK5.out.mono (fun k _ e => e ▸ Hgr.out)).trans (HK.out.setCell _ _ (.inr Hgr.out))⟩
          rw [hM2.out]
          refine ⟨(Hok1.out.withSt (by simp [shownAll]) (fun b hb => ?_)).settle, _, _, _, _, HD2.out.clear (M' := settleM (withSt N (shownAll N))) ((Kp.refl _ _).cell _ _) rfl rfl (HD2.out.blk.set 1 (.slice none 0 0))⟩
          obtain ⟨p, hp, rfl⟩ := List.mem_map.1 hb
          exact shownM_length Hok1.out (List.mem_range.1 hp)
  · rw [hoff] at c3
    have hE2 : Hd (syncE M = 5) := ⟨by rw [hE.out, hoff]; rfl⟩
    have hM2 : Hd (syncM M = M) := ⟨by rw [hM.out, hoff]; rfl⟩
    clear hoff hok hsokw hgoes
    go_enter Try.func43, Try.ntmps43
    go_wp2_with fail
    go_ret
    exact ⟨ret_int (by rw [hE2.out]), by rw [hM2.out]; exact hself.out, Kp.refl _ _⟩
end
end Go.Proofs.Ytkcechpaeilaeaa
