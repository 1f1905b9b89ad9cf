/- Sync. -/
import Derived.Test.YtkcechpaeilaeaaD5
import Derived.Deep.LoopGhost
namespace Go.Proofs.Ytkcechpaeilaeaa
open Go.RowKit
set_option linter.unusedVariables false
set_option linter.unusedSimpArgs false

/-- The stable pages while some entries of the map are still to come. -/
def stDone (M : DM) (T : List (Int × Value)) : List (List Int) := (List.range M.st.length).map fun p : Nat => if (T.any fun x => x.1 == (p : Int)) then M.st.getD p [] else shownM M p
def shownAll (M : DM) : List (List Int) := (List.range M.st.length).map (shownM M)
theorem stDone_length (M : DM) (T : List (Int × Value)) : (stDone M T).length = M.st.length := by simp [stDone]
theorem stDone_get (M : DM) (T : List (Int × Value)) (p : Nat) (hp : p < M.st.length) : (stDone M T)[p]? = some (if (T.any fun x => x.1 == (p : Int)) then M.st.getD p [] else shownM M p) := by
  simp only [stDone, List.getElem?_map, List.getElem?_range hp, Option.map_some]
theorem stDone_start (M : DM) (L : List (Int × Value)) (hn : (L.map (·.1)).Nodup) (hL : ∀ k : Int, mget L k = showsAt M.ws k) : stDone M L = M.st := by
  apply List.ext_getElem?
  intro p
  rcases Nat.lt_or_ge p M.st.length with hp | hp
  · rw [stDone_get M L p hp, List.getElem?_eq_getElem hp]
    by_cases h : (L.any fun x => x.1 == (p : Int)) = true
    · rw [if_pos h, getD_at _ _ _ hp]
    · rw [if_neg h]
      have h1 : mget L (p : Int) = none := by
        cases hm : mget L (p : Int) with
        | none => rfl
        | some v =>
          have := (mget_mem hn).1 hm
          exact absurd (List.any_eq_true.2 ⟨_, this, by simp⟩) h
      rw [hL] at h1
      simp only [showsAt, Int.natCast_nonneg, if_true, Int.toNat_natCast, Option.map_eq_none_iff] at h1
      simp only [shownM, h1]
      rw [getD_at _ _ _ hp]
  · rw [List.getElem?_eq_none (by rw [stDone_length]; omega), List.getElem?_eq_none hp]
theorem stDone_end (M : DM) : stDone M [] = shownAll M := by simp [stDone, shownAll]
theorem stDone_step (M : DM) (T : List (Int × Value)) (p : Nat) (hp : p < M.st.length) : stDone M (T.filter fun x => x.1 != (p : Int)) = (stDone M T).set p (shownM M p) := by
  apply List.ext_getElem?
  intro q
  rcases Nat.lt_or_ge q M.st.length with hq | hq
  · rw [stDone_get M _ q hq, List.getElem?_set]
    by_cases e : p = q
    · subst e
      rw [if_pos rfl, if_pos (show p < (stDone M T).length by rw [stDone_length]; exact hp), if_neg]
      intro h
      obtain ⟨x, hx, h2⟩ := List.any_eq_true.1 h
      have := (List.mem_filter.1 hx).2
      simp at this h2
      exact this h2
    · rw [if_neg e, stDone_get M T q hq]
      congr 1
      have : ((T.filter fun x => x.1 != (p : Int)).any fun x => x.1 == (q : Int)) = (T.any fun x => x.1 == (q : Int)) := by
        rw [Bool.eq_iff_iff, List.any_eq_true, List.any_eq_true]
        constructor
        · rintro ⟨x, hx, h⟩; exact ⟨x, (List.mem_filter.1 hx).1, h⟩
        · rintro ⟨x, hx, h⟩
          refine ⟨x, List.mem_filter.2 ⟨hx, ?_⟩, h⟩
          simp at h ⊢
          omega
      rw [this]
  · rw [List.getElem?_eq_none (by rw [stDone_length]; omega), List.getElem?_eq_none (by simp [stDone_length]; omega)]
theorem splice_page (st : List (List Int)) (hst : ∀ b ∈ st, b.length = 256) (spare : List Value) (p : Nat) (hp : p < st.length) (pg : List Int) (hpg : pg.length = 256) : splice (scells st ++ spare) (p * 256) (u8s pg) = scells (st.set p pg) ++ spare := by
  have hl : ∀ x ∈ st, (u8s x).length = 256 := fun x hx => by simp [hst x hx]
  induction st generalizing p with
  | nil => simp at hp
  | cons x r ih =>
    have hx : (u8s x).length = 256 := hl x (by simp)
    cases p with
    | zero =>
      simp only [Nat.zero_mul, List.set_cons_zero, scells, List.flatMap_cons, splice, List.take_zero, List.nil_append, Nat.zero_add, u8s_length, hpg, List.append_assoc]
      rw [List.drop_append_of_le_length (by omega), List.drop_of_length_le (by omega), List.nil_append]
    | succ p =>
      have ih' := ih (fun b hb => hst b (by simp [hb])) p (by simpa using hp) (fun b hb => hl b (by simp [hb]))
      simp only [List.set_cons_succ]
      have e1 : scells (x :: r) = u8s x ++ scells r := by simp [scells]
      have e2 : scells (x :: r.set p pg) = u8s x ++ scells (r.set p pg) := by simp [scells]
      rw [e1, e2, List.append_assoc, List.append_assoc, ← ih']
      unfold splice
      rw [show (p + 1) * 256 = (u8s x).length + p * 256 from by omega]
      rw [List.take_append, List.take_of_length_le (by omega), show (u8s x).length + p * 256 - (u8s x).length = p * 256 from by omega]
      rw [List.drop_append, List.drop_of_length_le (by omega), show (u8s x).length + p * 256 + (u8s pg).length - (u8s x).length = p * 256 + (u8s pg).length from by omega]
      simp

theorem info57 : (Try.prog.info? 57).map (·.size) = some (0 + 1) := by kernel_rfl
theorem info68s : (Try.prog.info? 68).map (·.size) = some (255 + 1) := by kernel_rfl
/-- The device whose stable pages are others. -/
def withSt (M : DM) (st : List (List Int)) : DM := { M with st := st }
theorem DM.Ok.withSt {M : DM} (h : M.Ok) {st : List (List Int)} (hl : st.length = M.st.length) (hp : ∀ b ∈ st, b.length = 256) : (withSt M st).Ok :=
  ⟨by show 0 < st.length; rw [hl]; exact h.pos, by show st.length ≤ _; rw [hl]; exact h.most, hp, fun x hx => by show x.1 < st.length ∧ _; rw [hl]; exact h.ws x hx, h.few, h.left0, h.left1, h.ops0, h.ops1⟩
/-- A stable page is written. -/
theorem DiskP.stable {w w' : World} {d : Nat} {M : DM} {F : Nat → Prop} {S cS m : Nat} {wv : Value} {spare : List Value} {L : List (Int × Value)} (h : DiskP w d M F S cS m wv spare L) {st : List (List Int)} (hl : st.length = M.st.length) (hk : Kp (· = S) w w')
    (hb : Blk w' S (scells st ++ spare) 68) : DiskP w' d (withSt M st) F S cS m wv spare L where
  blk := by
    have : (withSt M st).st.length = M.st.length := hl
    rw [this]; exact hk.keeps h.blk h.d_ne_S
  stb := hb
  cap := by have : (withSt M st).st.length = M.st.length := hl
            rw [this]; exact h.cap
  map := h.map.keep (hk.block _ h.map.lt (h.m_ne h.stb))
  shows := h.shows
  waits := ownsRow_keep h.waits (fun k hk' hl => hk.block k hl (fun e => h.w_ne h.stb (by decide) (by rw [hk', e])))
  fd := h.fd
  fS := h.fS
  fm := h.fm
  fw := h.fw
  lt := fun k hk' => Nat.lt_of_lt_of_le (h.lt k hk') hk.size

def syncM (M : DM) : DM := if M.off = true then M else if spendsB M = true then settleM (withSt (spendsM M) (shownAll M)) else spendsM M
def syncE (M : DM) : Int := if M.off = true then 5 else if spendsB M = true then 0 else 5

theorem sync_off {w : World} {d : Nat} {M : DM} {F : Nat → Prop} (h : DiskAt w d M F) (hoff : M.off = true) : Calls Try.prog 16 #[.pointer (some ⟨d, 0, none⟩)] w fun e w' => e = .returned (.int .i64 5) ∧ w = w' := by
  have hpw := power_at h
  have : pwrE M = 5 := by simp [pwrE, hoff]
  rw [this] at hpw
  have hpw := Hd.mk hpw
  clear h this hoff
  go_enter Try.func16, Try.ntmps16
  go_wp2_with (first | (go_at_call 35; refine hpw.out.mono ?_; rintro e w' ⟨rfl, rfl⟩))
  go_ret
  exact ⟨rfl, rfl⟩
theorem sync_spent {w : World} {d : Nat} {M : DM} {F : Nat → Prop} (h : DiskAt w d M F) (hoff : M.off = false) (hsp : spendsB M = false) (hops : M.ops < 1073741824) : Calls Try.prog 16 #[.pointer (some ⟨d, 0, none⟩)] w fun e w' => e = .returned (.int .i64 5) ∧ DiskAt w' d (spendsM M) F ∧ Kp F w w' := by
  have hpw := power_at h
  have hs := spends_at h hops
  have hd := h.own
  have : pwrE M = 0 := by simp [pwrE, hoff]
  rw [this] at hpw
  rw [hsp] at hs
  have hpw := Hd.mk hpw
  have hs := Hd.mk hs
  clear h this hoff hsp
  go_enter Try.func16, Try.ntmps16
  go_wp2_with (first | (go_at_call 35; refine hpw.out.mono ?_; rintro e w' ⟨rfl, rfl⟩) | (go_at_call 32; refine hs.out.mono ?_; rintro e w' ⟨rfl, hD5, hk5⟩; have HD5 := Hd.mk hD5; have HK5 := Hd.mk hk5; clear hD5 hk5))
  go_ret
  exact ⟨rfl, HD5.out, HK5.out.mono (fun k _ e => e ▸ hd)⟩

set_option maxHeartbeats 2000000 in
theorem sync_yes {w : World} {d : Nat} {M : DM} {F : Nat → Prop} (h : DiskAt w d M F) (hoff : M.off = false) (hsp : spendsB M = true) (hops : M.ops < 1073741824) : Calls Try.prog 16 #[.pointer (some ⟨d, 0, none⟩)] w fun e w' => e = .returned (.int .i64 0) ∧ DiskAt w' d (settleM (withSt (spendsM M) (shownAll M))) F ∧ Kp F w w' := by
  have hpw := power_at h
  have hs := spends_at h hops
  have hd := h.own
  have : pwrE M = 0 := by simp [pwrE, hoff]
  rw [this] at hpw
  rw [hsp] at hs
  have hpw := Hd.mk hpw
  have hs := Hd.mk hs
  have hst : Hd ((spendsM M).st = M.st ∧ (spendsM M).ws = M.ws) := ⟨by unfold spendsM; split <;> exact ⟨rfl, rfl⟩⟩
  have Hok := Hd.mk h.1
  have Hlt := Hd.mk h.lt
  have hops := Hd.mk hops
  clear h this hoff hsp
  go_enter Try.func16, Try.ntmps16
  go_wp2_with (first | (go_at_call 35; refine hpw.out.mono ?_; rintro e w' ⟨rfl, rfl⟩) | (go_at_call 32; refine hs.out.mono ?_; rintro e w1 ⟨rfl, ⟨hok1, S, cS, m, wv, spare, L, hp⟩, hk1⟩; have Hp := Hd.mk hp; have HK1 := Hd.mk hk1; have c2 := hp.c2; clear hp hk1 hok1) | (with_reducible refine wl_range rfl 59 3 3 _ rfl Try.underlying59 m rfl Hp.out.map (fun w2 H2 => ?_); obtain ⟨hI, hk2, hs2⟩ := H2.out; have HI := Hd.mk hI; have HK2 := Hd.mk hk2; have HS2 := Hd.mk hs2; clear hI hk2 hs2 H2; simp only [Act.put, List.setIfInBounds_toArray, List.set_cons_zero, List.set_cons_succ]))
  obtain ⟨hst1, hst2⟩ := hst.out
  generalize hN : spendsM M = N at *
  have hit : ¬ F w1.heap.size := fun hf => by have := Hlt.out _ hf; have := HK1.out.size; omega
  have hMN : Hd (spendsM M = N) := ⟨hN⟩
  have hokN : N.Ok := by rw [← hN]; exact Hok.out.spends hops.out
  have HokN := Hd.mk hokN
  have Hp2 := Hd.mk (Hp.out.keep HK2.out (fun _ _ => id))
  have hLn : (L.map (·.1)).Nodup := by obtain ⟨t, clk, -, -, hn, -⟩ := Hp.out.map; exact hn
  have Hstart := Hd.mk (stDone_start N L hLn Hp.out.shows)
  have HK12 := Hd.mk ((HK1.out.mono (S' := F) (fun k _ e => e ▸ hd)).andThen HK2.out (fun _ _ h => h.elim))
  have Hdd := Hd.mk hd
  have Hit := Hd.mk hit
  have Hst1 := Hd.mk hst1
  have HLn := Hd.mk hLn
  have hSA : Hd (shownAll N = shownAll M) := ⟨by simp only [shownAll, hst1]; congr 1; funext p; simp only [shownM, hst1, hst2]⟩
  clear hst hst2 hN hokN hd hit hpw hs c2 hLn
  go_loopg [] (L.length + 1) (fun k wr => ∃ todo lst, Hd (DiskP wr d (withSt N (stDone N todo)) F S cS m wv spare L) ∧ Hd (IRange wr m w1.heap.size L todo lst) ∧ Hd (Kp F w wr) ∧ Hd (todo.length + 1 = k))
  case atStart =>
    refine ⟨L, none, ⟨?_⟩, HI, HK12, ⟨rfl⟩⟩
    rw [Hstart.out]; exact Hp2.out
  case round =>
    obtain ⟨todo, lst, HD, HR, HK, Hk⟩ := hrel
    go_wp2_with (first | (with_reducible refine wl_next rfl _ rfl m w1.heap.size rfl HR.out (fun h0 => ?_) (fun k v w3 H3 => ?_)) | (with_reducible refine wl_entry rfl _ rfl m w1.heap.size rfl H3.out.2.1 ?_))
    · subst h0
      have hD : DiskAt wr d (withSt N (shownAll M)) F := by
        have h1 := HD.out
        rw [stDone_end, hSA.out] at h1
        refine ⟨HokN.out.withSt (by simp [shownAll, hst1]) ?_, S, cS, m, wv, spare, L, h1⟩
        intro b hb
        obtain ⟨p, hp, rfl⟩ := List.mem_map.1 hb
        exact shownM_length Hok.out (List.mem_range.1 hp)
      have hfin := Hd.mk (settles_at hD)
      clear hD
      refine hfin.out.mono ?_
      rintro e w5 ⟨rfl, h5, k5⟩
      have H5 := Hd.mk h5
      have K5 := Hd.mk k5
      clear h5 k5
      go_wp2_with fail
      go_ret
      have h5 := H5.out
      rw [← hMN.out] at h5
      exact ⟨rfl, h5, HK.out.andThen K5.out (fun _ _ h => h)⟩
    · obtain ⟨hmem, hI3, hk3, hlt3, hs3⟩ := H3.out
      have hF3 : ∀ k, F k → ¬ k = w1.heap.size := fun k hk e => Hit.out (e ▸ hk)
      have hD3 := HD.out.keep hk3 hF3
      have hmg := (mget_mem HLn.out).2 (HR.out.sub _ hmem)
      rw [HD.out.shows] at hmg
      unfold showsAt at hmg
      split at hmg
      case isFalse => cases hmg
      rename_i hk0
      obtain ⟨p, rfl⟩ := Int.eq_ofNat_of_zero_le hk0
      rw [Int.toNat_natCast] at hmg
      cases hl : lastI p N.ws with
      | none => rw [show (withSt N (stDone N todo)).ws = N.ws from rfl, hl] at hmg; cases hmg
      | some q =>
      rw [show (withSt N (stDone N todo)).ws = N.ws from rfl, hl] at hmg
      simp only [Option.map_some, Option.some.injEq] at hmg
      subst hmg
      obtain ⟨hq1, hq2⟩ := lastI_spec hl
      have hplt : p < N.st.length := by have := (HokN.out.ws N.ws[q] (List.getElem_mem _)).1; omega
      have hokD : (withSt N (stDone N todo)).Ok := HokN.out.withSt (stDone_length _ _) (by
        intro b hb
        obtain ⟨z, hz, rfl⟩ := List.mem_map.1 hb
        have hz := List.mem_range.1 hz
        split
        · rw [getD_at _ _ _ hz]; exact HokN.out.st _ (List.getElem_mem _)
        · exact shownM_length HokN.out hz)
      obtain ⟨g, cap, hwv, hFg, hr⟩ := hD3.wait hokD hq1
      have hE : shownM N p = N.ws[q].2 := by simp only [shownM, hl]; rw [getD_at _ _ _ hq1]
      have hrg : w3.rangeAt g (q * 257 + 1) (u8s (shownM N p)) := fun j v hv => by
        rw [hE] at hv
        have := hr (j + 1) v (by simpa [wcell, withSt] using hv)
        rw [show q * 257 + 1 + j = q * 257 + (j + 1) from by omega]; exact this
      have hpg := shownM_length HokN.out hplt
      have hS : Hd ((fun W : World => W.cell? ⟨d, 0, none⟩ = some (.slice (some ⟨S, 0, none⟩) N.st.length cS) ∧ W.cell? ⟨d, 1, none⟩ = some (.slice (some ⟨g, 0, none⟩) N.ws.length cap) ∧ W.rangeAt g (q * 257 + 1) (u8s (shownM N p))) w3.drew) := by
        refine ⟨?_, ?_, hrg⟩
        · have := hD3.c0
          rw [show (withSt N (stDone N todo)).st.length = N.st.length from stDone_length _ _] at this
          exact this
        · have := hD3.c1
          rw [hwv] at this
          exact this
      have Hmem := Hd.mk hmem
      have HI3 := Hd.mk hI3
      have HK3 := Hd.mk hk3
      have Hlt3 := Hd.mk hlt3
      have HD3 := Hd.mk hD3
      have HokD := Hd.mk hokD
      have Hpg := Hd.mk hpg
      have Hpl := Hd.mk hplt
      have HF3 := Hd.mk hF3
      clear hmem hI3 hk3 hlt3 hs3 hD3 hk0 hokD hr hE hrg hq2 hl H3 hpg hwv hF3
      refine rn_begin (fun W : World => W.cell? ⟨d, 0, none⟩ = some (.slice (some ⟨S, 0, none⟩) N.st.length cS) ∧ W.cell? ⟨d, 1, none⟩ = some (.slice (some ⟨g, 0, none⟩) N.ws.length cap) ∧ W.rangeAt g (q * 257 + 1) (u8s (shownM N p))) (List.range 14) (by kernel_rfl) ?_
      refine rn_take (i := 0) (dst := some 24) (v := .pointer (some ⟨d, 0, none⟩)) rfl (by kernel_rfl) (fun _ _ _ h => h) rfl rfl (fun W hW => ex_move W _ _ rfl rfl) hS.out ?_; simp only [Act.put, List.setIfInBounds_toArray, List.set_cons_zero, List.set_cons_succ]
      refine rn_take (i := 1) (dst := some 25) (v := .pointer (some ⟨d, 0, none⟩)) rfl (by kernel_rfl) (fun _ _ _ h => h) rfl rfl (fun W hW => ex_nilCheck W _ _ rfl rfl) hS.out ?_; simp only [Act.put, List.setIfInBounds_toArray, List.set_cons_zero, List.set_cons_succ]
      refine rn_take (i := 2) (dst := some 26) (v := .pointer (some ⟨d, 0, none⟩)) rfl (by kernel_rfl) (fun _ _ _ h => h) rfl rfl (fun W hW => ex_field W 61 0 _ rfl d 0 0 0 Try.underlying61 rfl info57 rfl rfl) hS.out ?_; simp only [Act.put, List.setIfInBounds_toArray, List.set_cons_zero, List.set_cons_succ]
      refine rn_take (i := 3) (dst := some 27) (v := .slice (some ⟨S, 0, none⟩) N.st.length cS) rfl (by kernel_rfl) (fun _ _ _ h => h) rfl rfl (fun W hW => ex_load W 57 _ _ rfl ⟨d, 0, none⟩ Try.underlying57 rfl rfl hW.1) hS.out ?_; simp only [Act.put, List.setIfInBounds_toArray, List.set_cons_zero, List.set_cons_succ]
      refine rn_take (i := 4) (dst := some 28) (v := .int .i64 (p : Int)) rfl (by kernel_rfl) (fun _ _ _ h => h) rfl rfl (fun W hW => ex_move W _ _ rfl rfl) hS.out ?_; simp only [Act.put, List.setIfInBounds_toArray, List.set_cons_zero, List.set_cons_succ]
      refine rn_take (i := 5) (dst := some 29) (v := .pointer (some ⟨d, 0, none⟩)) rfl (by kernel_rfl) (fun _ _ _ h => h) rfl rfl (fun W hW => ex_move W _ _ rfl rfl) hS.out ?_; simp only [Act.put, List.setIfInBounds_toArray, List.set_cons_zero, List.set_cons_succ]
      refine rn_take (i := 6) (dst := some 30) (v := .pointer (some ⟨d, 0, none⟩)) rfl (by kernel_rfl) (fun _ _ _ h => h) rfl rfl (fun W hW => ex_nilCheck W _ _ rfl rfl) hS.out ?_; simp only [Act.put, List.setIfInBounds_toArray, List.set_cons_zero, List.set_cons_succ]
      refine rn_take (i := 7) (dst := some 31) (v := .pointer (some ⟨d, 1, none⟩)) rfl (by kernel_rfl) (fun _ _ _ h => h) rfl rfl (fun W hW => ex_field W 61 1 _ rfl d 0 0 1 Try.underlying61 rfl info58s rfl rfl) hS.out ?_; simp only [Act.put, List.setIfInBounds_toArray, List.set_cons_zero, List.set_cons_succ]
      refine rn_take (i := 8) (dst := some 32) (v := .slice (some ⟨g, 0, none⟩) N.ws.length cap) rfl (by kernel_rfl) (fun _ _ _ h => h) rfl rfl (fun W hW => ex_load W 58 _ _ rfl ⟨d, 1, none⟩ Try.underlying58 rfl rfl hW.2.1) hS.out ?_; simp only [Act.put, List.setIfInBounds_toArray, List.set_cons_zero, List.set_cons_succ]
      refine rn_take (i := 9) (dst := some 33) (v := .int .i64 (q : Int)) rfl (by kernel_rfl) (fun _ _ _ h => h) rfl rfl (fun W hW => ex_move W _ _ rfl rfl) hS.out ?_; simp only [Act.put, List.setIfInBounds_toArray, List.set_cons_zero, List.set_cons_succ]
      refine rn_take (i := 10) (dst := some 34) (v := .pointer (some ⟨g, 0 + q * 257, none⟩)) rfl (by kernel_rfl) (fun _ _ _ h => h) rfl rfl (fun W hW => ex_index W 58 70 _ _ rfl 257 q Try.underlying58 info70 g 0 _ _ rfl .i64 rfl hq1) hS.out ?_; simp only [Act.put, List.setIfInBounds_toArray, List.set_cons_zero, List.set_cons_succ]
      refine rn_take (i := 11) (dst := some 35) (v := .pointer (some ⟨g, 0 + q * 257 + 1, none⟩)) rfl (by kernel_rfl) (fun _ _ _ h => h) rfl rfl (fun W hW => ex_field W 70 1 _ rfl g (0 + q * 257) 255 1 Try.underlying70 rfl info68s rfl rfl) hS.out ?_; simp only [Act.put, List.setIfInBounds_toArray, List.set_cons_zero, List.set_cons_succ]
      refine rn_take (i := 12) (dst := some 36) (v := .agg (u8s (shownM N p)).toArray) rfl (by kernel_rfl) (fun _ _ _ h => h) rfl rfl (fun W hW => ex_load_mid W 68 _ rfl g (0 + q * 257 + 1) rfl _ (by rw [Nat.zero_add]; exact hW.2.2) Try.underlying68 rfl (by rw [u8s_length, Hpg.out]; exact info68)) hS.out ?_; simp only [Act.put, List.setIfInBounds_toArray, List.set_cons_zero, List.set_cons_succ]
      refine rn_take (i := 13) (dst := some 37) (v := .pointer (some ⟨S, 0 + p * 256, none⟩)) rfl (by kernel_rfl) (fun _ _ _ h => h) rfl rfl (fun W hW => ex_index W 57 68 _ _ rfl 256 p Try.underlying57 info68 S 0 _ _ rfl .i64 rfl Hpl.out) hS.out ?_; simp only [Act.put, List.setIfInBounds_toArray, List.set_cons_zero, List.set_cons_succ]
      refine rn_one (i := 14) (dst := none) rfl (by kernel_rfl) rfl rfl (fun K hK => ?_)
      have hlen3 : 0 + p * 256 + (u8s (shownM N p)).length ≤ (scells (stDone N todo) ++ spare).length := by
        rw [u8s_length, Hpg.out, List.length_append]
        have h1 := flat_length u8s 256 (stDone N todo) (fun x hx => by rw [u8s_length]; exact HokD.out.st x hx)
        rw [stDone_length] at h1
        have := Nat.mul_le_mul_right 256 (show p + 1 ≤ N.st.length from Hpl.out)
        unfold scells
        omega
      refine ow_store_mid (w := w3.drew) 68 _ _ rfl S (0 + p * 256) 68 (scells (stDone N todo) ++ spare) (u8s (shownM N p)) rfl rfl HD3.out.stb hlen3 (by rw [u8s_length, Hpg.out]; exact info68) (u8s_one _) (fun w5 hb5 hk5 hs5 => hK _ _ (fun h => by simp at h) ?_)
      clear hK K
      refine rn_done (by kernel_rfl) ?_ _
      have hk5' : Kp (· = S) w3 w5 := ⟨hk5.os, hk5.tape, hk5.output, hk5.size, hk5.block⟩
      rw [Nat.zero_add, splice_page (stDone N todo) (fun b hb => HokD.out.st b hb) spare p (by rw [stDone_length]; exact Hpl.out) _ Hpg.out, ← stDone_step N todo p Hpl.out] at hb5
      have HD5 := Hd.mk (HD3.out.stable (st := stDone N (todo.filter fun x => x.1 != (p : Int))) (by rw [stDone_length]; show _ = (stDone N todo).length; rw [stDone_length]) hk5' hb5)
      have HR5 := Hd.mk (HI3.out.keep (hk5'.block _ HI3.out.lt.1 (fun e => HD3.out.m_ne HD3.out.stb e)) (hk5'.block _ HI3.out.lt.2 (fun e => Hit.out (e ▸ HD3.out.fS))))
      have HK5 := Hd.mk ((HK.out.andThen HK3.out (fun i hi e => by have := HK1.out.size; have := e; omega)).andThen hk5' (fun i _ e => e ▸ HD3.out.fS))
      clear hb5 hk5 hk5' hs5 hlen3 hS
      simp only [Act.put, List.setIfInBounds_toArray, List.set_cons_zero, List.set_cons_succ]
      go_wp2_with fail
      go_roundg ((todo.filter fun x => x.1 != (p : Int)).length + 1)
      case measure => have := Hk.out; have := Hlt3.out; omega
      case rel => exact ⟨_, _, HD5, HR5, HK5, ⟨rfl⟩⟩
theorem sync_at {w : World} {d : Nat} {M : DM} {F : Nat → Prop} (h : DiskAt w d M F) (hops : M.ops < 1073741824) : Calls Try.prog 16 #[.pointer (some ⟨d, 0, none⟩)] w fun e w' => e = .returned (.int .i64 (syncE M)) ∧ DiskAt w' d (syncM M) F ∧ Kp F w w' := by
  unfold syncE syncM
  by_cases h1 : M.off = true
  · rw [if_pos h1, if_pos h1]
    refine (sync_off h h1).mono ?_
    rintro e w' ⟨rfl, rfl⟩
    exact ⟨rfl, h, Kp.refl _ _⟩
  · rw [if_neg h1, if_neg h1]
    have h1 : M.off = false := by simpa using h1
    by_cases h2 : spendsB M = true
    · rw [if_pos h2, if_pos h2]; exact sync_yes h h1 h2 hops
    · rw [if_neg h2, if_neg h2]; exact sync_spent h h1 (by simpa using h2) hops
end Go.Proofs.Ytkcechpaeilaeaa
