/- DiskWhole: the walk. -/
import Derived.Test.YtkcechpaeilaeaaP1
import Derived.Test.YtkcechpaeilaeaaD12
namespace Go.Proofs.Ytkcechpaeilaeaa
open Go.RowKit
set_option linter.unusedVariables false
set_option linter.unusedSimpArgs false

def fours (n k : Nat) : List Int := (List.range n).map fun i => if i < k then 4 else 0
theorem fours_get (n k i : Nat) (h : i < n) : (fours n k)[i]? = some (if i < k then 4 else 0) := by simp [fours, h]
theorem fours_length (n k : Nat) : (fours n k).length = n := by simp [fours]
theorem fours_set (n k : Nat) (h : k < n) : (u8s (fours n k)).set k (.int .u8 4) = u8s (fours n (k + 1)) := by
  apply List.ext_getElem?
  intro i
  rw [List.getElem?_set]
  rcases Nat.lt_or_ge i n with hi | hi
  · rw [u8s_get, u8s_get, fours_get _ _ _ hi, fours_get _ _ _ hi]
    by_cases e : k = i
    · subst e
      rw [if_pos rfl, if_pos (by rw [u8s_length, fours_length]; exact h), if_pos (by omega)]; rfl
    · rw [if_neg e]
      by_cases c : i < k
      · rw [if_pos c, if_pos (by omega)]
      · rw [if_neg c, if_neg (by omega)]
  · rw [if_neg (by omega), List.getElem?_eq_none (by rw [u8s_length, fours_length]; omega), List.getElem?_eq_none (by rw [u8s_length, fours_length]; omega)]
theorem fours_all (n : Nat) : fours n n = List.replicate n 4 := by
  apply List.ext_getElem?
  intro i
  rcases Nat.lt_or_ge i n with hi | hi
  · rw [fours_get _ _ _ hi, if_pos hi, List.getElem?_replicate, if_pos hi]
  · rw [List.getElem?_eq_none (by rw [fours_length]; omega), List.getElem?_eq_none (by simpa using hi)]
theorem new8 (w : World) : Calls Try.prog 9 #[.int .i64 8] w fun e w' =>
    ∃ d, e = .returned (.tuple #[.pointer (some ⟨d, 0, none⟩), .int .i64 0]) ∧ Dv w w' d (newM 8) := by
  refine (new_yes w 8 (by omega) (by omega)).mono ?_
  rintro e w' ⟨d, rfl, h1, h2⟩
  exact ⟨d, rfl, ⟨_, h1, fun k hk => hk.1⟩, h2⟩
set_option maxRecDepth 20000 in
set_option maxHeartbeats 4000000 in
theorem diskwhole_no {w : World} {A : Option Addr} {c : Nat} {l : List OpM} (h : Os w (.slice A l.length c) l) (hf : fewB l = false) : Calls Try.prog 5 #[.slice A l.length c] w fun e w' => e = .returned (.bool true) ∧ Old w w' := by
  have hfew := few_at h
  rw [← fewR_no A c l hf] at hfew
  have hfew := Hd.mk hfew
  clear h hf
  go_enter Try.func5, Try.ntmps5
  go_wp2_with (first
    | (go_at_call 8; refine hfew.out.mono ?_; rintro e w1 ⟨rfl, hk1⟩; have K1 := Hd.mk hk1; clear hk1)
    | (go_at_call 9; (with_reducible refine (new8 w1).mono ?_); rintro e w2 ⟨d, rfl, hD2⟩; have D2 := Hd.mk hD2; have K2 := Hd.mk (K1.out.trans hD2.2); clear hD2)
    | (go_at_call 10; (with_reducible refine (live_at w2).mono ?_); rintro e w3 ⟨rfl, hk3⟩; have K3 := Hd.mk (K2.out.trans hk3); clear hk3)
    | (go_at_call 10; (with_reducible refine (live_at w3).mono ?_); rintro e w4 ⟨rfl, hk4⟩; have K4 := Hd.mk (K3.out.trans hk4); clear hk4))
  go_ret
  exact ⟨rfl, K4.out⟩

/-- A device and its clone, each in blocks of its own. -/
theorem dv_clone {w0 w : World} {d : Nat} {M : DM} (h : Dv w0 w d M) : Calls Try.prog 20 #[.pointer (some ⟨d, 0, none⟩)] w fun e w' =>
    ∃ x, e = .returned (.pointer (some ⟨x, 0, none⟩)) ∧ (∃ F F', DiskAt w' d M F ∧ DiskAt w' x M F' ∧ (∀ k, F k → w0.heap.size ≤ k) ∧ (∀ k, F' k → w0.heap.size ≤ k) ∧ (∀ k, F k → ¬ F' k)) ∧ Old w0 w' := by
  obtain ⟨⟨F, h1, h2⟩, h3⟩ := h
  refine (clone_at h1).mono ?_
  rintro e w' ⟨x, rfl, ⟨F', h4, h5⟩, h6⟩
  exact ⟨x, rfl, ⟨F, F', h1.keep h6 (fun _ _ => id), h4, h2, fun k hk => by have := h5 k hk; have := h3.size; omega, fun k hk hk' => by have := h1.lt k hk; have := h5 k hk'; omega⟩, h3.trans h6⟩
set_option maxRecDepth 20000 in
set_option maxHeartbeats 4000000 in
theorem diskwhole_yes {w : World} {A : Option Addr} {c : Nat} {l : List OpM} (h : Os w (.slice A l.length c) l) (hf : fewB l = true) : Calls Try.prog 5 #[.slice A l.length c] w fun e w' => e = .returned (.bool true) ∧ Old w w' := by
  have hfew := few_at h
  rw [← fewR_yes A c l hf _ rfl] at hfew
  have hfew := Hd.mk hfew
  have Hos := Hd.mk (h.take (n := 0) 50)
  have Hlen : Hd ((l.take 50).length ≤ 50) := ⟨by rw [List.length_take]; omega⟩
  clear h hf
  generalize l.take 50 = l' at *
  go_enter Try.func5, Try.ntmps5
  go_wp2_with (first
    | (go_at_call 8; refine hfew.out.mono ?_; rintro e w1 ⟨rfl, hk1⟩; have K1 := Hd.mk hk1; clear hk1)
    | (go_at_call 9; (with_reducible refine (new8 w1).mono ?_); rintro e w2 ⟨d, rfl, hD2⟩; have D2 := Hd.mk hD2; have K2 := Hd.mk (K1.out.trans hD2.2); clear hD2)
    | (go_at_call 10; (with_reducible refine (live_at w2).mono ?_); rintro e w3 ⟨rfl, hk3⟩; have D3 := Hd.mk (D2.out.old hk3); have K3 := Hd.mk (K2.out.trans hk3); clear hk3)
    | (go_at_call 15; refine (plays_at (n := 8) D3.out (Hos.out.old K1.out) (Calm.new 8) (by have := Hlen.out; omega) (by omega)).mono ?_; rintro e w4 ⟨rfl, hD4⟩; have D4 := Hd.mk hD4; clear hD4)
    | (go_at_call 20; refine (dv_clone D4.out).mono ?_; rintro e w5 ⟨x, rfl, ⟨F, F', h51, h52, h53, h54, h55⟩, hk5⟩; have Da := Hd.mk h51; have Db := Hd.mk h52; have Ha := Hd.mk h53; have Hb := Hd.mk h54; have Hab := Hd.mk h55; have K5 := Hd.mk (K1.out.trans hk5); clear h51 h52 h53 h54 h55 hk5)
    | (go_at_call 14; refine (image_at Db.out).mono ?_; rintro e w6 ⟨v8, rfl, hb6, hf6, hk6⟩; have B6 := Hd.mk hb6; have F6 := Hd.mk hf6; have K6 := Hd.mk hk6; clear hb6 hf6 hk6))
  have hoks := Da.out.1
  have hst : Hd ((playsM 8 (newM 8) l').st.length = 8) := ⟨((Calm.new 8).plays l').len⟩
  have hre : Hd (∀ p : Nat, p < 8 → readE (playsM 8 (newM 8) l') p = 0) := ⟨fun p hp => ((Calm.new 8).plays l').atE p hp⟩
  have hcalm := Hd.mk ((Calm.new 8).plays l')
  have Hoks := Hd.mk hoks
  have D6 := Hd.mk (Da.out.keep K6.out (fun _ _ => id))
  have E6 := Hd.mk (Db.out.keep K6.out (fun _ _ => id))
  clear hoks
  generalize playsM 8 (newM 8) l' = M at *
  go_loopw [9, 55] (fun v9 v55 wr => ∃ k : Nat, v55 = .int .i64 k ∧ k ≤ 8 ∧ Hd (wr.ownsRow 0 5 1 v9 (k * 256) (u8s (imgUpto (shownAll M) k))) ∧ Hd (∀ b, v9.ownBlock = some b → w6.heap.size ≤ b) ∧ Hd (Kp (fun _ => False) w6 wr)) (fun _ v55 _ => 8 - (intOf v55).toNat)
  case atStart => exact ⟨0, rfl, Nat.zero_le _, ⟨⟨by rw [u8s_length]; rfl, .inl ⟨rfl, Nat.zero_mul _⟩⟩⟩, ⟨fun b hb => by simp [Value.ownBlock] at hb⟩, ⟨Kp.refl _ _⟩⟩
  case round =>
    obtain ⟨k, rfl, hk, HO, HF, HK⟩ := hrel
    by_cases hlt : k < 8
    · have Hlt := Hd.mk hlt
      have hltI : (k : Int) < 8 := by omega
      have hkM : k < M.st.length := by rw [hst.out]; exact hlt
      have hpl := shownM_length Hoks.out hkM
      have hr := Hd.mk (read_yes (D6.out.keep HK.out (fun _ _ => id)) k (hre.out k hlt))
      have hsuc : imgUpto (shownAll M) (k + 1) = imgUpto (shownAll M) k ++ shownM M k := by
        rw [imgUpto_succ _ k (by simpa [shownAll] using hkM), getD_at _ _ _ (by simpa [shownAll] using hkM)]
        simp [shownAll]
      have Hsuc := Hd.mk hsuc
      have hone := Hd.mk (u8s_one (shownM M k))
      have Hpn := Hd.mk (show (u8s (shownM M k)).length = 256 * 1 by rw [u8s_length, hpl])
      have H63 := Hd.mk (show k * 256 + 256 ≤ maxLen by simp only [maxLen]; omega)
      have H64 := Hd.mk (show (k * 256 + 256) * 1 ≤ 140737488355328 by omega)
      generalize shownM M k = pg at *
      clear hlt hk hkM hpl hsuc
      go_wp2_with (first
        | (go_at_call 17; refine hr.out.mono ?_; rintro e w7 ⟨rb, rfl, hrb, hb7, hk7⟩; have HO7 := Hd.mk (ownsRow_keep HO.out (fun b _ hl => hk7.block b hl id)); have HB7 := Hd.mk (Blk_range hb7); have HK7 := Hd.mk (HK.out.trans hk7); clear hrb hb7 hk7)
        | ((with_reducible refine wl_append rfl _ _ 23 rfl 5 1 1 Try.underlying23 info5z cells5z Nat.one_pos _ (k * 256) (u8s (imgUpto (shownAll M) k)) rfl ?_ _ 0 256 256 (u8s pg) rfl Hpn.out HB7.out hone.out H63.out H64.out (by omega) ?_); exact HO7.out; intro v9 w9 h91 h92 h93; have H91 := Hd.mk h91; have H92 := Hd.mk h92; have H93 := Hd.mk h93; clear h91 h92 h93))
      exact ⟨⟨k + 1, by go_num, Hlt.out, ⟨by rw [Nat.succ_mul, Hsuc.out, u8s_append]; exact H91.out⟩, ⟨fun b hb => by
        rcases H93.out b hb with h | h
        · exact HF.out b h
        · have := HK7.out.size
          omega⟩, ⟨HK7.out.andThen H92.out (fun i hi e => by have := HF.out i e; omega)⟩⟩, by have := Hlt.out; simp [intOf]; omega⟩
    · have e : k = 8 := by omega
      subst e
      clear hlt hk
      have Dr := Hd.mk (D6.out.keep HK.out (fun _ _ => id))
      have Er := Hd.mk (E6.out.keep HK.out (fun _ _ => id))
      have hw := Hd.mk (waits_at Dr.out)
      have hn50 : M.ws.length ≤ 50 := by have := hcalm.out.ws; have := Hlen.out; omega
      have hnI : (M.ws.length : Int) ≤ 50 := by omega
      have hmk := run_make_bytes wr M.ws.length (by omega)
      have Hn50 := Hd.mk hn50
      clear hn50
      generalize hn : M.ws.length = n at *
      go_wp2_with (first | (go_at_call 18; refine hw.out.mono ?_; rintro e w' ⟨rfl, rfl⟩))
      have hb0 : Hd (Blk (wr.alloc (.cells (List.replicate n (.int .u8 0)).toArray 5)) wr.heap.size (u8s (fours n 0)) 5) := ⟨by rw [show u8s (fours n 0) = List.replicate n (.int .u8 0) by apply List.ext_getElem?; intro i; simp [fours, u8s, List.getElem?_replicate]; split <;> simp_all [List.getElem?_range]]; exact Blk.new wr _ 5⟩
      have Hnn := Hd.mk hn
      clear hmk hn
      generalize hwz : wr = wz at *
      clear hwz wr
      go_loopw [75] (fun v75 wr => ∃ k : Nat, v75 = .int .i64 k ∧ k ≤ n ∧ Hd (Blk wr wz.heap.size (u8s (fours n k)) 5) ∧ Hd (Kp (fun _ => False) wz wr)) (fun v75 _ => n - (intOf v75).toNat)
      case atStart => exact ⟨0, rfl, Nat.zero_le _, hb0, ⟨(Kp.refl _ _).alloc _⟩⟩
      case round =>
        obtain ⟨k, rfl, hk, HQ, HKQ⟩ := hrel
        by_cases hlt : k < n
        · have hltI : (k : Int) < (n : Int) := by omega
          have Hlt := Hd.mk hlt
          have hc : wr.cell? ⟨wz.heap.size, k, none⟩ = some (.int .u8 0) := by rw [Blk.cell HQ.out, u8s_get, fours_get _ _ _ hlt, if_neg (by omega)]; rfl
          have hfr : wr.frozen? ⟨wz.heap.size, k, none⟩ = false := Blk.free HQ.out k
          clear hlt hk
          go_wp2_with fail
          exact ⟨⟨k + 1, by go_num, Hlt.out, ⟨by rw [← fours_set n k Hlt.out]; exact Blk.set HQ.out k _⟩, ⟨HKQ.out.setCell _ _ (.inl (Nat.le_refl _))⟩⟩, by have := Hlt.out; simp [intOf]; omega⟩
        · have e : k = n := by omega
          subst e
          clear hlt hk
          have Bp : Hd (Bs wr (.slice (some ⟨wz.heap.size, 0, none⟩) k k) (List.replicate k 4)) := ⟨by
            have := Bs_blk (c := k) HQ.out (by rw [fours_length]; exact Nat.le_refl _)
            rw [fours_length, fours_all] at this
            exact this⟩
          have Dq := Hd.mk (Dr.out.keep HKQ.out (fun _ _ => id))
          have Eq := Hd.mk (Er.out.keep HKQ.out (fun _ _ => id))
          have hc1 := Hd.mk (crash_at Dq.out Bp.out (fun n hn => by have := List.eq_of_mem_replicate hn; omega) (fun b hb hf => by have h : some wz.heap.size = some b := hb; injection h with h; have := Dr.out.lt b hf; omega))
          have Bn : ∀ w : World, Bs w (.slice none 0 0) [] := fun w => ⟨none, 0, rfl, Nat.le_refl _, .inl rfl⟩
          have HB9 := Hd.mk ((ownsRow_Bs (by rw [imgUpto_length _ (fun b hb => by obtain ⟨p, hp, rfl⟩ := List.mem_map.1 hb; exact shownM_length Hoks.out (List.mem_range.1 hp)) 8 (by simp [shownAll, hst.out])]) HO.out))
          have hfl : Hd ((crashM M (List.replicate k 4)).st.flatten = imgUpto (shownAll M) 8) := ⟨by
            rw [← Hnn.out, crash_whole M Hoks.out]
            unfold imgUpto
            rw [List.take_of_length_le (by simp [shownAll, hst.out])]⟩
          have hfl2 : Hd ((crashM M []).st.flatten = M.st.flatten) := ⟨by rw [crash_still M Hoks.out]⟩
          have hsh2 : Hd ((crashM M []).st.flatten.length ≤ 1000000000) := ⟨by rw [hfl2.out]; have := imgUpto_length M.st Hoks.out.st 8 (by rw [hst.out]; exact Nat.le_refl _); rw [show imgUpto M.st 8 = M.st.flatten by unfold imgUpto; rw [List.take_of_length_le (by rw [hst.out]; exact Nat.le_refl _)]] at this; omega⟩
          have hsh : Hd ((crashM M (List.replicate k 4)).st.flatten.length ≤ 1000000000) := ⟨by rw [hfl.out, imgUpto_length _ (fun b hb => by obtain ⟨p, hp, rfl⟩ := List.mem_map.1 hb; exact shownM_length Hoks.out (List.mem_range.1 hp)) 8 (by simp [shownAll, hst.out])]; omega⟩
          have HBn := Hd.mk Bn
          clear Bn
          go_wp2_with (first
            | (go_at_call 13; (with_reducible refine hc1.out.mono ?_); rintro e w10 ⟨rfl, hD, hk⟩; have D10 := Hd.mk hD; have K10 := Hd.mk hk; clear hD hk)
            | (go_at_call 13; refine (crash_at (Eq.out.keep K10.out (fun b hb hf => Hab.out b hf hb)) (HBn.out w10) (fun n hn => by simp at hn) (fun b hb => by simp [Value.ownBlock] at hb)).mono ?_; rintro e w11 ⟨rfl, hD, hk⟩; have E11 := Hd.mk hD; have K11 := Hd.mk hk; have D11 := Hd.mk (D10.out.keep hk (fun b hb => Hab.out b hb)); clear hD hk)
            | (go_at_call 14; (with_reducible refine (image_at D11.out).mono ?_); rintro e w12 ⟨v12, rfl, hb, hf, hk⟩; have B12 := Hd.mk hb; have K12 := Hd.mk hk; have E12 := Hd.mk (E11.out.keep hk (fun _ _ => id)); clear hb hf hk)
            | (go_at_call 19; have hs := same_at B12.out (HB9.out.keep (w' := w12) (fun b hb hv => by
                have h6 := HF.out b hv
                have n1 : ¬ F b := fun hf => by have := D6.out.lt b hf; omega
                have n2 : ¬ F' b := fun hf => by have := E6.out.lt b hf; omega
                have q1 := HKQ.out.block b hb id
                have s1 : b < wr.heap.size := Nat.lt_of_lt_of_le hb HKQ.out.size
                have q2 := K10.out.block b s1 n1
                have s2 : b < w10.heap.size := Nat.lt_of_lt_of_le s1 K10.out.size
                have q3 := K11.out.block b s2 n2
                have q4 := K12.out.block b (Nat.lt_of_lt_of_le s2 K11.out.size) id
                exact q4.trans (q3.trans (q2.trans q1)))) hsh.out; rw [decide_eq_true hfl.out] at hs; (with_reducible refine hs.mono ?_); rintro e w13 ⟨rfl, hk⟩; have E13 := Hd.mk (E12.out.keep hk (fun _ _ => id)); have K13 := Hd.mk hk; clear hs hk)
            | (go_at_call 14; (with_reducible refine (image_at E13.out).mono ?_); rintro e w14 ⟨v14, rfl, hb, hf, hk⟩; have B14 := Hd.mk hb; have K14 := Hd.mk hk; clear hb hf hk)
            | (go_at_call 19; have hs := same_at B14.out (B6.out.keep (w' := w14) (fun b hb hv => by
                have h6 := F6.out b hv
                have n1 : ¬ F b := fun hf => by have := Da.out.lt b hf; omega
                have n2 : ¬ F' b := fun hf => by have := Db.out.lt b hf; omega
                have q0 := HK.out.block b hb id
                have s0 : b < wz.heap.size := Nat.lt_of_lt_of_le hb HK.out.size
                have q1 := HKQ.out.block b s0 id
                have s1 : b < wr.heap.size := Nat.lt_of_lt_of_le s0 HKQ.out.size
                have q2 := K10.out.block b s1 n1
                have s2 : b < w10.heap.size := Nat.lt_of_lt_of_le s1 K10.out.size
                have q3 := K11.out.block b s2 n2
                have s3 : b < w11.heap.size := Nat.lt_of_lt_of_le s2 K11.out.size
                have q4 := (K12.out.trans (K13.out.trans K14.out)).block b s3 id
                exact q4.trans (q3.trans (q2.trans (q1.trans q0))))) hsh2.out; rw [decide_eq_true hfl2.out] at hs; (with_reducible refine hs.mono ?_); rintro e w15 ⟨rfl, hk⟩; have K15 := Hd.mk hk; clear hs hk))
          go_ret
          have a1 := ((K5.out.trans K6.out).trans HK.out).trans HKQ.out
          have a2 := a1.andThen K10.out (fun i hi hf => by have := Ha.out i hf; have := K1.out.size; omega)
          have a3 := a2.andThen K11.out (fun i hi hf => by have := Hb.out i hf; have := K1.out.size; omega)
          exact ⟨rfl, a3.trans (K12.out.trans (K13.out.trans (K14.out.trans K15.out)))⟩
theorem diskwhole_at {w : World} {A : Option Addr} {c : Nat} {l : List OpM} (h : Os w (.slice A l.length c) l) : Calls Try.prog 5 #[.slice A l.length c] w fun e w' => e = .returned (.bool true) ∧ Old w w' := by
  cases hf : fewB l with
  | true => exact diskwhole_yes h hf
  | false => exact diskwhole_no h hf
end Go.Proofs.Ytkcechpaeilaeaa
