/- The walk of DiskSectors. -/
import Derived.Test.YtkcechpaeilaeaaS2
import Derived.Test.YtkcechpaeilaeaaReg2
import Derived.Test.YtkcechpaeilaeaaD9
namespace Go.Proofs.Ytkcechpaeilaeaa
open Go.RowKit
set_option linter.unusedVariables false
set_option linter.unusedSimpArgs false
theorem new8s (w : World) : Calls Try.prog 9 #[.int .i64 8] w fun e w' =>
    ∃ d, e = .returned (.tuple #[.pointer (some ⟨d, 0, none⟩), .int .i64 0]) ∧ Dv w w' d (newM 8) := by
  refine (new_yes w 8 (by omega) (by omega)).mono ?_
  rintro e w' ⟨d, rfl, h1, h2⟩
  exact ⟨d, rfl, ⟨_, h1, fun k hk => hk.1⟩, h2⟩
theorem fewR_tuple' (A : Option Addr) (c : Nat) (l : List OpM) : ∃ A' n' c', fewR A c l = .tuple #[.slice A' n' c', .bool (fewB l)] := by
  unfold fewR
  cases fewB l
  · exact ⟨_, _, _, rfl⟩
  · exact ⟨_, _, _, rfl⟩
set_option maxRecDepth 20000 in
set_option maxHeartbeats 4000000 in
theorem sectors_no {w : World} {A : Option Addr} {c : Nat} {l : List OpM} (h : Os w (.slice A l.length c) l) (Ap : Option Addr) (np cp : Nat) (hno : fewB l = false ∨ 200 < np) :
    Calls Try.prog 3 #[.slice A l.length c, .slice Ap np cp] w fun e w' => e = .returned (.bool true) ∧ Old w w' := by
  have f1 := few_at h
  obtain ⟨B1, n1, e1, hr1⟩ := fewR_tuple' A c l
  rw [hr1] at f1
  have f1 := Hd.mk f1
  clear h hr1
  generalize fewB l = b1 at *
  cases b1
  case' true =>
    have hp : (200 : Int) < (np : Int) := by simp at hno; omega
  all_goals
    clear hno
    go_enter Try.func3, Try.ntmps3
    go_wp2_with (first
      | (go_at_call 8; (with_reducible refine f1.out.mono ?_); rintro e w1 ⟨rfl, hk1⟩; have K1 := Hd.mk hk1; clear hk1)
      | (go_at_call 9; (with_reducible refine (new8s w1).mono ?_); rintro e w3 ⟨d, rfl, hD3⟩; have K3 := Hd.mk (K1.out.trans hD3.2); clear hD3)
      | (go_at_call 10; (with_reducible refine (live_at w3).mono ?_); rintro e w4 ⟨rfl, hk4⟩; have K4 := Hd.mk (K3.out.trans hk4); clear hk4)
      | (go_at_call 10; (with_reducible refine (live_at w4).mono ?_); rintro e w5 ⟨rfl, hk5⟩; have K5 := Hd.mk (K4.out.trans hk5); clear hk5))
    go_ret
    exact ⟨rfl, K5.out⟩
/-- The table when so many of its places are filled. -/
def filled (n : Nat) : Nat → List Int := fun i => if i < n then [0] else []
theorem filled_upd (n : Nat) : upd (filled n) n [0] = filled (n + 1) := by
  funext i
  unfold upd filled
  by_cases h : i = n
  · subst h; rw [if_pos rfl, if_pos (by omega)]
  · rw [if_neg h]
    by_cases h2 : i < n
    · rw [if_pos h2, if_pos (by omega)]
    · rw [if_neg h2, if_neg (by omega)]
theorem ownsRow_one (w : World) (x : Int) : (w.alloc (.cells #[.int .u8 x] 5)).ownsRow 0 5 1 (.slice (some ⟨w.heap.size, 0, none⟩) 1 1) [x].length (u8s [x]) :=
  ⟨rfl, .inr ⟨w.heap.size, 1, #[.int .u8 x], rfl, Nat.zero_le _, heap_alloc_new w _, Nat.le_refl _, by decide, rfl, rfl⟩⟩

theorem dec_take (y : Int) (L : List Int) (q : Nat) (h : q < L.length) : decide (y ∈ L.take (q + 1)) = (decide (y ∈ L.take q) || decide (L[q] = y)) := by
  rw [List.take_succ_eq_append_getElem h, ← Bool.decide_or]
  apply decide_eq_decide.2
  rw [List.mem_append, List.mem_singleton]
  exact or_congr Iff.rfl eq_comm
theorem mayG_length (l : List OpM) (i : Nat) : (mayG l i).length ≤ l.length + 1 := by
  unfold mayG
  rw [List.length_cons, List.length_map]
  have := List.length_filter_le (fun x : OpM => x.p == ((i / 4 : Nat) : Int)) l
  omega
/-- The table when the first s sectors of a write of page p are in it. -/
def gS (G : Nat → List Int) (pg : List Int) (p s : Nat) : Nat → List Int := fun i => if i / 4 = p ∧ i % 4 < s then G i ++ [pg.getD (i % 4 * 64) 0] else G i
theorem gS_zero (G : Nat → List Int) (pg : List Int) (p : Nat) : gS G pg p 0 = G := by
  funext i
  unfold gS
  rw [if_neg (by omega)]
theorem gS_at (G : Nat → List Int) (pg : List Int) (p s : Nat) (hs : s < 4) : gS G pg p s (p * 4 + s) = G (p * 4 + s) := by
  unfold gS
  rw [if_neg (by omega)]
theorem gS_upd (G : Nat → List Int) (pg : List Int) (p s : Nat) (hs : s < 4) : upd (gS G pg p s) (p * 4 + s) (G (p * 4 + s) ++ [pg.getD (s * 64) 0]) = gS G pg p (s + 1) := by
  funext i
  unfold upd gS
  by_cases h : i = p * 4 + s
  · subst h
    rw [if_pos rfl, if_pos (by omega), show (p * 4 + s) % 4 = s from by omega]
  · rw [if_neg h]
    by_cases h2 : i / 4 = p ∧ i % 4 < s
    · rw [if_pos h2, if_pos (by omega)]
    · rw [if_neg h2, if_neg (by omega)]
theorem gS_four (l : List OpM) (k : Nat) (h : k < l.length) (p : Nat) (hp : l[k].p = p) : gS (mayG (l.take k)) (pageOf l[k].b) p 4 = mayG (l.take (k + 1)) := by
  funext i
  rw [List.take_succ_eq_append_getElem h, mayG_snoc, hp]
  unfold gS
  by_cases e : i / 4 = p
  · rw [if_pos (by omega), if_pos (by omega)]
  · rw [if_neg (by omega), if_neg (by omega)]
theorem mayG_skip (l : List OpM) (k : Nat) (h : k < l.length) (hp : l[k].p < 0 ∨ 7 < l[k].p) (i : Nat) (hi : i < 32) : mayG (l.take (k + 1)) i = mayG (l.take k) i := by
  rw [List.take_succ_eq_append_getElem h, mayG_snoc, if_neg (by omega)]
set_option maxRecDepth 20000 in
set_option maxHeartbeats 4000000 in
theorem sectors_yes {w : World} {A : Option Addr} {c : Nat} {l : List OpM} (h : Os w (.slice A l.length c) l) {Ap : Option Addr} {cp : Nat} {pick : List Int} (hp : Bs w (.slice Ap pick.length cp) pick) (hby : Bytes pick) (hf : fewB l = true) (hnp : pick.length ≤ 200) :
    Calls Try.prog 3 #[.slice A l.length c, .slice Ap pick.length cp] w fun e w' => e = .returned (.bool true) ∧ Old w w' := by
  have f1 := few_at h
  rw [← fewR_yes A c l hf _ rfl] at f1
  have f1 := Hd.mk f1
  have O1 := Hd.mk (h.take (n := 0) 50)
  have N1 : Hd ((l.take 50).length ≤ 50) := ⟨by rw [List.length_take]; omega⟩
  have hnI : ((l.take 50).length : Int) ≤ 50 := by rw [List.length_take]; omega
  have Hp := Hd.mk hp
  have Hby := Hd.mk hby
  have hnpI : (pick.length : Int) ≤ 200 := by omega
  clear h hf hp hby hnp
  generalize l.take 50 = m at *
  go_enter Try.func3, Try.ntmps3
  go_wp2_with (first
    | (go_at_call 8; (with_reducible refine f1.out.mono ?_); rintro e w1 ⟨rfl, hk1⟩; have K1 := Hd.mk hk1; clear hk1)
    | (go_at_call 9; (with_reducible refine (new8s w1).mono ?_); rintro e w3 ⟨d, rfl, hD3⟩; have D3 := Hd.mk hD3; clear hD3)
    | (go_at_call 10; (with_reducible refine (live_at w3).mono ?_); rintro e w4 ⟨rfl, hk4⟩; have D4 := Hd.mk (D3.out.old hk4); clear hk4)
    | (with_reducible refine wl_alloc rfl 32 rfl Z32 (zero32 _) ?_))
  have M5 := Hd.mk (Md.start D4.out)
  generalize hwa : w4.alloc (.cells Z32.toArray 32) = wa at *
  clear hwa
  generalize hB : w4.heap.size = B at *
  clear hB
  go_loopw [53] (fun v53 wr => ∃ k : Nat, v53 = .int .i64 k ∧ k ≤ 8 ∧ Hd (Md w1 wr B d (newM 8) (filled (k * 4)) NoX)) (fun v53 _ => 8 - (intOf v53).toNat)
  case atStart => exact ⟨0, rfl, Nat.zero_le _, ⟨M5.out.congr (fun i _ => by unfold filled; rw [if_neg (by omega)])⟩⟩
  case round =>
    obtain ⟨k, rfl, hk, HM⟩ := hrel
    by_cases hlt : k < 8
    · have hltI : (k : Int) < 8 := by omega
      have Hlt := Hd.mk hlt
      obtain ⟨wo, rfl⟩ : ∃ wo : World, wo = wr := ⟨_, rfl⟩
      clear hlt hk
      go_wp2_with fail
      go_loopw [11, 56, 58, 59, 60, 61, 62, 63] (fun v11 v56 v58 v59 v60 v61 v62 v63 wr => ∃ s : Nat, v56 = .int .i64 s ∧ s ≤ 4 ∧ Hd (Md w1 wr B d (newM 8) (filled (k * 4 + s)) NoX)) (fun v11 v56 v58 v59 v60 v61 v62 v63 _ => 4 - (intOf v56).toNat)
      case atStart => exact ⟨0, rfl, Nat.zero_le _, HM⟩
      case round =>
        obtain ⟨s, rfl, hs, HMs⟩ := hrel
        by_cases hlt : s < 4
        · have hltI : (s : Int) < 4 := by omega
          have Hlts := Hd.mk hlt
          obtain ⟨v, hc, hf, hBl, hr, hne, -, hput⟩ := HMs.out.row (i := k * 4 + s) (by have := Hlt.out; omega)
          have Hput := Hd.mk hput
          clear hput hr hne hlt hs
          go_wp2_with fail
          have hp2 := Hput.out (wr.alloc (.cells #[.int .u8 0] 5)) (.slice (some ⟨wr.heap.size, 0, none⟩) 1 1) [0] ((Kp.refl _ wr).alloc _) (ownsRow_one wr 0) (fun k hk => .inr (by simp [Value.ownBlock] at hk; omega))
          rw [filled_upd, World.setCell_alloc_past _ _ _ _ hBl] at hp2
          exact ⟨⟨s + 1, by go_num, Hlts.out, ⟨hp2⟩⟩, by have := Hlts.out; simp [intOf]; omega⟩
        · have e : s = 4 := by omega
          subst e
          rw [show ((4 : Nat) : Int) = 4 from rfl]
          clear hlt hs
          go_wp2_with fail
          exact ⟨⟨k + 1, by go_num, Hlt.out, ⟨by rw [show (k + 1) * 4 = k * 4 + 4 from by omega]; exact HMs.out⟩⟩, by have := Hlt.out; simp [intOf]; omega⟩
    · have e : k = 8 := by omega
      subst e
      rw [show ((8 : Nat) : Int) = 8 from rfl]
      have MS : Hd (Md w1 wr B d (secM (newM 8) (m.take 0)) (mayG (m.take 0)) NoX) := ⟨HM.out.congr (fun i hi => by unfold filled; rw [if_pos (by omega)]; rfl)⟩
      obtain ⟨ws, rfl⟩ : ∃ ws : World, ws = wr := ⟨_, rfl⟩
      clear hlt hk HM
      go_wp2_with fail
      go_loopw [68] (fun v68 wr => ∃ k : Nat, v68 = .int .i64 k ∧ k ≤ m.length ∧ Hd (Md w1 wr B d (secM (newM 8) (m.take k)) (mayG (m.take k)) NoX)) (fun v68 _ => m.length - (intOf v68).toNat)
      case atStart => exact ⟨0, rfl, Nat.zero_le _, MS⟩
      case round =>
        obtain ⟨k, rfl, hk, HD⟩ := hrel
        by_cases hlt : k < m.length
        · have hltI : (k : Int) < (m.length : Int) := by omega
          have Hlt := Hd.mk hlt
          obtain ⟨A', c', e, -, hr⟩ := O1.out
          injection e with e1 e2 e3
          subst e1 e3
          clear e2
          rcases hr with h0 | ⟨b, o, rfl, hr⟩
          · rw [h0] at hlt; simp at hlt
          obtain ⟨vb, vp, hrg0, hbb, hbp, -, -⟩ := hr k _ (List.getElem?_eq_getElem hlt)
          have hrg := rangeAt_keep hrg0 ((K1.out.trans HD.out.since).block b (rangeAt_lt hrg0 (by simp)) id)
          clear hrg0
          have htk := secM_take (M := newM 8) hlt
          have hfour := gS_four m k hlt
          have hskip := mayG_skip m k hlt
          have hcl := ((Calm.new 8).secs (m.take k)).mono (show 0 + (m.take k).length ≤ 50 by rw [List.length_take]; have := N1.out; omega)
          have hgl : ∀ i, (mayG (m.take k) i).length ≤ 51 := fun i => by have := mayG_length (m.take k) i; rw [List.length_take] at this; have := N1.out; omega
          generalize m[k] = x at *
          obtain ⟨xa, xp, xn, xb, xpick⟩ := x
          dsimp only at hrg hbb hbp hfour hskip
          generalize secM (newM 8) (m.take k) = Mk at *
          generalize hG : mayG (m.take k) = G at *
          clear hG
          obtain ⟨Ap2, cp2, rfl, hcp, -⟩ := hbp
          have Hrg := Hd.mk hrg
          have Htk := Hd.mk htk
          have Hcl := Hd.mk hcl
          have Hbb := Hd.mk hbb
          have Hfour := Hd.mk hfour
          have Hskip := Hd.mk hskip
          have Hgl := Hd.mk hgl
          obtain ⟨Ab, cb, rfl, -, -⟩ := hbb
          have hone : Hd (∀ v ∈ [Value.int .i64 xa, .int .i64 xp, .int .i64 xn, .slice Ab xb.length cb, .slice Ap2 xpick.length cp2], v.oneCell' = true) := ⟨by intro v hv; simp at hv; rcases hv with rfl | rfl | rfl | rfl | rfl <;> rfl⟩
          have hi34 : Hd ((Try.prog.info? 34).map (·.size) = some ([Value.int .i64 xa, .int .i64 xp, .int .i64 xn, .slice Ab xb.length cb, .slice Ap2 xpick.length cp2] : List Value).length) := ⟨info34⟩
          have hz34 : Hd (Z5.length = ([Value.int .i64 xa, .int .i64 xp, .int .i64 xn, .slice Ab xb.length cb, .slice Ap2 xpick.length cp2] : List Value).length) := ⟨rfl⟩
          clear hlt hk hr hrg htk hcl hcp hfour hskip hgl
          by_cases hp : xp < 0 ∨ 7 < xp
          · have hstep : Hd (secStep Mk ⟨xa, xp, xn, xb, xpick⟩ = Mk) := ⟨by unfold secStep; rw [if_pos hp]⟩
            have hno := Hd.mk (Hskip.out hp)
            by_cases h0 : xp < 0
            · have h0B : decide (xp < 0) = true := by simp; omega
              clear hp h0
              go_wp2_with (first
                | (with_reducible refine wl_load_mid rfl 34 _ rfl b (o + k * 5) rfl _ Hrg.out Try.underlying34 rfl hi34.out ?_)
                | (with_reducible refine wl_alloc rfl 34 rfl Z5 (zero34 _) ?_)
                | (with_reducible refine wl_store_new rfl 34 _ _ rfl Z5 [.int .i64 xa, .int .i64 xp, .int .i64 xn, .slice Ab xb.length cb, .slice Ap2 xpick.length cp2] rfl rfl hi34.out hz34.out hone.out ?_))
              exact ⟨⟨k + 1, by go_num, Hlt.out, ⟨by rw [Htk.out, hstep.out]; exact (HD.out.old ((Kp.refl _ _).alloc _)).congr hno.out⟩⟩, by have := Hlt.out; simp [intOf]; omega⟩
            · have h0B : decide (xp < 0) = false := by simp; omega
              have h7 : 7 < xp := by omega
              have h00 : 0 ≤ xp := by omega
              have h7B : decide (7 < xp) = true := by simp; omega
              clear hp h0
              go_wp2_with (first
                | (with_reducible refine wl_load_mid rfl 34 _ rfl b (o + k * 5) rfl _ Hrg.out Try.underlying34 rfl hi34.out ?_)
                | (with_reducible refine wl_alloc rfl 34 rfl Z5 (zero34 _) ?_)
                | (with_reducible refine wl_store_new rfl 34 _ _ rfl Z5 [.int .i64 xa, .int .i64 xp, .int .i64 xn, .slice Ab xb.length cb, .slice Ap2 xpick.length cp2] rfl rfl hi34.out hz34.out hone.out ?_))
              exact ⟨⟨k + 1, by go_num, Hlt.out, ⟨by rw [Htk.out, hstep.out]; exact (HD.out.old ((Kp.refl _ _).alloc _)).congr hno.out⟩⟩, by have := Hlt.out; simp [intOf]; omega⟩
          · obtain ⟨p, rfl⟩ : ∃ p : Nat, xp = p := ⟨xp.toNat, by omega⟩
            have hpn : p < 8 := by omega
            have hpI : (p : Int) ≤ 7 := by omega
            have hstep : Hd (secStep Mk ⟨xa, p, xn, xb, xpick⟩ = writeM Mk p (pageOf xb)) := ⟨by unfold secStep; rw [if_neg hp]; rfl⟩
            have hf4 := Hd.mk (Hfour.out p rfl)
            have Hpn := Hd.mk hpn
            have HBs : Hd (∀ w', Old wr w' → Bs w' (.slice Ab xb.length cb) xb) := ⟨fun w' h => Hbb.out.old ((K1.out.trans HD.out.since).trans h)⟩
            clear hp hpn
            have hpg : Hd ((pageOf xb).length = 256) := ⟨pageOf_length xb⟩
            go_wp2_with (first
              | (with_reducible refine wl_load_mid rfl 34 _ rfl b (o + k * 5) rfl _ Hrg.out Try.underlying34 rfl hi34.out ?_)
              | (with_reducible refine wl_alloc rfl 34 rfl Z5 (zero34 _) ?_)
              | (with_reducible refine wl_store_new rfl 34 _ _ rfl Z5 [Value.int .i64 xa, .int .i64 (p : Int), .int .i64 xn, .slice Ab xb.length cb, .slice Ap2 xpick.length cp2] rfl rfl hi34.out hz34.out hone.out ?_)
              | (go_at_call 11
                 have hold : Old wr (wr.alloc (.cells [Value.int .i64 xa, .int .i64 (p : Int), .int .i64 xn, .slice Ab xb.length cb, .slice Ap2 xpick.length cp2].toArray 34)) := (Kp.refl _ wr).alloc _
                 have hblk := Blk.new wr [Value.int .i64 xa, .int .i64 (p : Int), .int .i64 xn, .slice Ab xb.length cb, .slice Ap2 xpick.length cp2] 34
                 have hsz : (wr.alloc (.cells [Value.int .i64 xa, .int .i64 (p : Int), .int .i64 xn, .slice Ab xb.length cb, .slice Ap2 xpick.length cp2].toArray 34)).heap.size = wr.heap.size + 1 := by simp
                 have hpage := page_at (HBs.out _ hold)
                 rw [hsz] at hpage
                 (with_reducible refine hpage.mono ?_)
                 rintro e w7 ⟨rfl, hb7, hk7, hs7⟩
                 have HK7 := Hd.mk (hold.trans hk7)
                 have HB7 := Hd.mk hb7
                 have HA7 := Hd.mk (hk7.keeps hblk id)
                 have HS7 := Hd.mk hs7
                 have hc7 : w7.cell? ⟨wr.heap.size, 1, none⟩ = some (.int .i64 (p : Int)) := by rw [Blk.cell HA7.out]; rfl
                 clear hold hblk hsz hpage hb7 hk7 hs7)
              | (go_at_call 12
                 (with_reducible refine (md_write (Y := fun k => k = wr.heap.size ∨ k = wr.heap.size + 1) HD.out HK7.out Hcl.out (by omega) p Hpn.out (wr.heap.size + 1) 5 _ hpg.out HB7.out (by omega) (fun b hb => by have := HS7.out; omega)).mono ?_)
                 rintro e w8 ⟨rfl, h8, hk8⟩
                 have H8 := Hd.mk h8
                 have HA8 := Hd.mk (hk8.keeps HA7.out (by omega))
                 have HB8 := Hd.mk (hk8.keeps HB7.out (by omega))
                 clear h8 hk8 hc7))
            have Hsz : Hd (wr.heap.size < w8.heap.size) := ⟨blk_lt HA8.out⟩
            rw [← hstep.out, ← Htk.out] at H8
            obtain ⟨wo, rfl⟩ : ∃ wo : World, wo = wr := ⟨_, rfl⟩
            have HG0 : Hd (Md w1 w8 B d (secM (newM 8) (m.take (k + 1))) (gS G (pageOf xb) p 0) (fun k => k = wo.heap.size ∨ k = wo.heap.size + 1)) := ⟨by rw [gS_zero]; exact H8.out⟩
            clear H8
            go_loopw [89] (fun v89 wr => ∃ s : Nat, v89 = .int .i64 s ∧ s ≤ 4 ∧ Hd (Md w1 wr B d (secM (newM 8) (m.take (k + 1))) (gS G (pageOf xb) p s) (fun k => k = wo.heap.size ∨ k = wo.heap.size + 1)) ∧ Hd (Blk wr wo.heap.size [Value.int .i64 xa, .int .i64 (p : Int), .int .i64 xn, .slice Ab xb.length cb, .slice Ap2 xpick.length cp2] 34) ∧ Hd (Blk wr (wo.heap.size + 1) (u8s (pageOf xb)) 5)) (fun v89 _ => 4 - (intOf v89).toNat)
            case atStart => exact ⟨0, rfl, Nat.zero_le _, HG0, HA8, HB8⟩
            case round =>
              obtain ⟨s, rfl, hs, HMs, HA, HBp⟩ := hrel
              by_cases hlts : s < 4
              · have hltI : (s : Int) < 4 := by omega
                have Hlts := Hd.mk hlts
                obtain ⟨v, hc, hf, hBl, hr, hne, hXB, hput⟩ := HMs.out.row (i := p * 4 + s) (by have := Hpn.out; omega)
                rw [gS_at _ _ _ _ hlts] at hr
                have Hr := Hd.mk hr
                have Hput := Hd.mk hput
                have Hne := Hd.mk hne
                have HXB := Hd.mk hXB
                have Hc := Hd.mk hc
                have Hf := Hd.mk hf
                have HBl := Hd.mk hBl
                have hx : (u8s (pageOf xb))[s * 64]? = some (.int .u8 ((pageOf xb).getD (s * 64) 0)) := by
                  rw [u8s_get, List.getD_eq_getElem?_getD, List.getElem?_eq_getElem (by rw [hpg.out]; omega)]; rfl
                have Hx : Hd (wr.cell? ⟨wo.heap.size + 1, s * 64, none⟩ = some (.int .u8 ((pageOf xb).getD (s * 64) 0))) := ⟨(Blk.cell HBp.out _).trans hx⟩
                have Hupd := Hd.mk (gS_upd G (pageOf xb) p s hlts)
                have hgl := Hgl.out (p * 4 + s)
                have H63 := Hd.mk (show (G (p * 4 + s)).length + 1 ≤ maxLen by simp only [maxLen]; omega)
                have H64 := Hd.mk (show ((G (p * 4 + s)).length + 1) * 1 ≤ 140737488355328 by omega)
                generalize (pageOf xb).getD (s * 64) 0 = x at *
                clear hlts hs hput hne hr hc hf hBl hXB hx hgl
                go_wp2_with fail
                have hS : Hd ((fun W : World => W.cell? ⟨wo.heap.size, 1, none⟩ = some (.int .i64 (p : Int)) ∧ W.cell? ⟨B, p * 4 + s, none⟩ = some v ∧ W.cell? ⟨wo.heap.size + 1, s * 64, none⟩ = some (.int .u8 x)) wr.drew) := ⟨(Blk.cell HA.out 1).trans rfl, Hc.out, Hx.out⟩
                refine rn_begin (fun W : World => W.cell? ⟨wo.heap.size, 1, none⟩ = some (.int .i64 (p : Int)) ∧ W.cell? ⟨B, p * 4 + s, none⟩ = some v ∧ W.cell? ⟨wo.heap.size + 1, s * 64, none⟩ = some (.int .u8 x)) (List.range 18) (by kernel_rfl) ?_
                refine rn_take (i := 0) (dst := some 92) (v := .pointer (some ⟨wo.heap.size, 1, none⟩)) rfl (by kernel_rfl) (fun _ _ _ h => h) rfl rfl (fun W hW => ex_field W 34 1 _ rfl wo.heap.size 0 0 1 Try.underlying34 rfl info3s rfl rfl) hS.out ?_; simp only [Act.put, List.setIfInBounds_toArray, List.set_cons_zero, List.set_cons_succ]
                refine rn_take (i := 1) (dst := some 93) (v := .int .i64 (p : Int)) rfl (by kernel_rfl) (fun _ _ _ h => h) rfl rfl (fun W hW => ex_load W 3 _ _ rfl ⟨wo.heap.size, 1, none⟩ Try.underlying3 rfl rfl hW.1) hS.out ?_; simp only [Act.put, List.setIfInBounds_toArray, List.set_cons_zero, List.set_cons_succ]
                refine rn_take (i := 2) (dst := some 94) (v := .int .i64 (s : Int)) rfl (by kernel_rfl) (fun _ _ _ h => h) rfl rfl (fun W hW => ex_move W _ _ rfl rfl) hS.out ?_; simp only [Act.put, List.setIfInBounds_toArray, List.set_cons_zero, List.set_cons_succ]
                refine rn_take (i := 3) (dst := some 95) (v := .pointer (some ⟨wo.heap.size, 1, none⟩)) rfl (by kernel_rfl) (fun _ _ _ h => h) rfl rfl (fun W hW => ex_field W 34 1 _ rfl wo.heap.size 0 0 1 Try.underlying34 rfl info3s rfl rfl) hS.out ?_; simp only [Act.put, List.setIfInBounds_toArray, List.set_cons_zero, List.set_cons_succ]
                refine rn_take (i := 4) (dst := some 96) (v := .int .i64 (p : Int)) rfl (by kernel_rfl) (fun _ _ _ h => h) rfl rfl (fun W hW => ex_load W 3 _ _ rfl ⟨wo.heap.size, 1, none⟩ Try.underlying3 rfl rfl hW.1) hS.out ?_; simp only [Act.put, List.setIfInBounds_toArray, List.set_cons_zero, List.set_cons_succ]
                refine rn_take (i := 5) (dst := some 97) (v := .int .i64 (s : Int)) rfl (by kernel_rfl) (fun _ _ _ h => h) rfl rfl (fun W hW => ex_move W _ _ rfl rfl) hS.out ?_; simp only [Act.put, List.setIfInBounds_toArray, List.set_cons_zero, List.set_cons_succ]
                refine rn_take (i := 6) (dst := some 98) (v := .pointer (some ⟨B, 0 + p * 4, none⟩)) rfl (by kernel_rfl) (fun _ _ _ h => h) rfl rfl (fun W hW => ex_indexArr W 32 31 _ _ rfl 4 p 8 Try.underlying32 info31n B 0 rfl .i64 rfl Hpn.out) hS.out ?_; simp only [Act.put, List.setIfInBounds_toArray, List.set_cons_zero, List.set_cons_succ]
                refine rn_take (i := 7) (dst := some 99) (v := .pointer (some ⟨B, 0 + p * 4 + s * 1, none⟩)) rfl (by kernel_rfl) (fun _ _ _ h => h) rfl rfl (fun W hW => ex_indexArr W 31 23 _ _ rfl 1 s 4 Try.underlying31 info23n B (0 + p * 4) rfl .i64 rfl Hlts.out) hS.out ?_; simp only [Act.put, List.setIfInBounds_toArray, List.set_cons_zero, List.set_cons_succ]
                refine rn_take (i := 8) (dst := some 100) (v := v) rfl (by kernel_rfl) (fun _ _ _ h => h) rfl rfl (fun W hW => ex_load W 23 _ _ rfl ⟨B, 0 + p * 4 + s * 1, none⟩ Try.underlying23 rfl rfl (by rw [Nat.zero_add, Nat.mul_one]; exact hW.2.1)) hS.out ?_; simp only [Act.put, List.setIfInBounds_toArray, List.set_cons_zero, List.set_cons_succ]
                refine rn_take (i := 9) (dst := some 101) (v := .slice (some ⟨wo.heap.size + 1, 0, none⟩) 256 256) rfl (by kernel_rfl) (fun _ _ _ h => h) rfl rfl (fun W hW => ex_move W _ _ rfl rfl) hS.out ?_; simp only [Act.put, List.setIfInBounds_toArray, List.set_cons_zero, List.set_cons_succ]
                refine rn_take (i := 10) (dst := some 102) (v := .int .i64 (s : Int)) rfl (by kernel_rfl) (fun _ _ _ h => h) rfl rfl (fun W hW => ex_move W _ _ rfl rfl) hS.out ?_; simp only [Act.put, List.setIfInBounds_toArray, List.set_cons_zero, List.set_cons_succ]
                refine rn_take (i := 11) (dst := some 103) (v := .int .i64 ((s * 64 : Nat) : Int)) rfl (by kernel_rfl) (fun _ _ _ h => h) rfl rfl (fun W hW => by rw [show ((s * 64 : Nat) : Int) = (s : Int) * 64 from by omega]; exact ex_mul W _ _ _ _ rfl _ 64 rfl rfl (by have := Hlts.out; omega) (by have := Hlts.out; omega)) hS.out ?_; simp only [Act.put, List.setIfInBounds_toArray, List.set_cons_zero, List.set_cons_succ]
                refine rn_take (i := 12) (dst := some 104) (v := .pointer (some ⟨wo.heap.size + 1, 0 + s * 64 * 1, none⟩)) rfl (by kernel_rfl) (fun _ _ _ h => h) rfl rfl (fun W hW => ex_index W 23 5 _ _ rfl 1 (s * 64) Try.underlying23 info5s (wo.heap.size + 1) 0 _ _ rfl .i64 rfl (by have := Hlts.out; omega)) hS.out ?_; simp only [Act.put, List.setIfInBounds_toArray, List.set_cons_zero, List.set_cons_succ]
                refine rn_take (i := 13) (dst := some 105) (v := .int .u8 x) rfl (by kernel_rfl) (fun _ _ _ h => h) rfl rfl (fun W hW => ex_load W 5 _ _ rfl ⟨wo.heap.size + 1, 0 + s * 64 * 1, none⟩ Try.underlying5 rfl rfl (by rw [Nat.zero_add, Nat.mul_one]; exact hW.2.2)) hS.out ?_; simp only [Act.put, List.setIfInBounds_toArray, List.set_cons_zero, List.set_cons_succ]
                refine rn_takeT [17, 18] (i := 16) (dst := some 108) (v := .pointer (some ⟨B, 0 + p * 4, none⟩)) rfl (by kernel_rfl) (fun _ _ _ h => h) rfl rfl (fun W hW => ex_indexArr W 32 31 _ _ rfl 4 p 8 Try.underlying32 info31n B 0 rfl .i64 rfl Hpn.out) hS.out ?_; simp only [Act.put, List.setIfInBounds_toArray, List.set_cons_zero, List.set_cons_succ]
                refine rn_one (i := 14) (dst := some 106) rfl (by kernel_rfl) rfl rfl (fun K hK => ?_)
                have HR1 := Hd.mk (World.ownsRow.alloc (w := wr.drew) Hr.out (.cells [Value.int .u8 x].toArray 5))
                have hS1 : Hd ((fun W : World => W.cell? ⟨wo.heap.size, 1, none⟩ = some (.int .i64 (p : Int)) ∧ W.cell? ⟨B, p * 4 + s, none⟩ = some v ∧ W.cell? ⟨wo.heap.size + 1, s * 64, none⟩ = some (.int .u8 x)) (wr.drew.alloc (.cells [Value.int .u8 x].toArray 5))) := ⟨(World.cell?_of_block (_root_.Go.heap_alloc_old wr.drew _ (blk_lt HA.out))).trans hS.out.1, (World.cell?_of_block (_root_.Go.heap_alloc_old wr.drew _ HBl.out)).trans hS.out.2.1, (World.cell?_of_block (_root_.Go.heap_alloc_old wr.drew _ (blk_lt HBp.out))).trans hS.out.2.2⟩
                have HN := Hd.mk (Blk_range (Blk.new wr.drew [Value.int .u8 x] 5))
                refine ow_run (ex_bs1 _ 23 5 _ rfl Try.underlying23 [Value.int .u8 x] rfl (.int .u8 0) [.int .u8 0] rfl rfl info5s rfl (by simp) (by simp)) ?_
                refine hK _ _ (fun _ => hS1.out) ?_
                clear hK K
                simp only [Act.put, List.setIfInBounds_toArray, List.set_cons_zero, List.set_cons_succ]
                refine rn_one (i := 15) (dst := some 107) rfl (by kernel_rfl) rfl rfl (fun K hK => ?_)
                refine ow_append _ _ 23 rfl 5 1 1 Try.underlying23 info5z cells5z Nat.one_pos v (G (p * 4 + s)).length (u8s (G (p * 4 + s))) rfl HR1.out _ 0 1 1 [.int .u8 x] rfl rfl HN.out (by intro u hu; simp at hu; subst hu; rfl) H63.out H64.out (by omega) (fun v9 w9 h91 h92 h93 => ?_)
                have hk9 : Kp (fun k => v.ownBlock = some k) wr w9 := (((Kp.refl _ wr).drew).alloc (.cells [Value.int .u8 x].toArray 5)).trans h92
                have hv9 : ∀ k, v9.ownBlock = some k → v.ownBlock = some k ∨ wr.heap.size ≤ k := fun k hk => (h93 k hk).imp id (fun h => by simp at h; omega)
                have hr9 : w9.ownsRow 0 5 1 v9 (G (p * 4 + s) ++ [x]).length (u8s (G (p * 4 + s) ++ [x])) := by
                  rw [List.length_append, u8s_append]; exact h91
                have hMd := Hput.out w9 v9 _ hk9 hr9 hv9
                rw [Hupd.out] at hMd
                have HMd := Hd.mk hMd
                have eA := hk9.block _ (blk_lt HA.out) (fun e => (Hne.out _ e).2.2 (.inl rfl))
                have eP := hk9.block _ (blk_lt HBp.out) (fun e => (Hne.out _ e).2.2 (.inr rfl))
                have eB := hk9.block _ HBl.out (fun e => (Hne.out _ e).1 rfl)
                have hS9 : Hd ((fun W : World => W.cell? ⟨wo.heap.size, 1, none⟩ = some (.int .i64 (p : Int)) ∧ W.cell? ⟨B, p * 4 + s, none⟩ = some v ∧ W.cell? ⟨wo.heap.size + 1, s * 64, none⟩ = some (.int .u8 x)) w9) := ⟨(World.cell?_of_block eA).trans hS.out.1, (World.cell?_of_block eB).trans hS.out.2.1, (World.cell?_of_block eP).trans hS.out.2.2⟩
                have HcB := Hd.mk ((World.cell?_of_block eB).trans Hc.out)
                have HfB : Hd (w9.frozen? ⟨B, p * 4 + s, none⟩ = false) := ⟨(World.frozen?_of_block eB).trans Hf.out⟩
                have HA9 : Hd (Blk w9 wo.heap.size [Value.int .i64 xa, .int .i64 (p : Int), .int .i64 xn, .slice Ab xb.length cb, .slice Ap2 xpick.length cp2] 34) := ⟨eA.trans HA.out⟩
                have HP9 : Hd (Blk w9 (wo.heap.size + 1) (u8s (pageOf xb)) 5) := ⟨eP.trans HBp.out⟩
                have hXB1 : Hd (wo.heap.size ≠ B) := ⟨fun e => HXB.out (.inl e.symm)⟩
                have hXB2 : Hd (wo.heap.size + 1 ≠ B) := ⟨fun e => HXB.out (.inr e.symm)⟩
                obtain ⟨A9, c9, rfl, -⟩ := ownsRow_len h91
                refine hK _ _ (fun _ => hS9.out) ?_
                clear hK K hMd hk9 hv9 hr9 eA eP eB h91 h92 h93 hS hS1
                have hS := hS9
                simp only [Act.put, List.setIfInBounds_toArray, List.set_cons_zero, List.set_cons_succ]
                refine rn_take (i := 17) (dst := some 109) (v := .pointer (some ⟨B, 0 + p * 4 + s * 1, none⟩)) rfl (by kernel_rfl) (fun _ _ _ h => h) rfl rfl (fun W hW => ex_indexArr W 31 23 _ _ rfl 1 s 4 Try.underlying31 info23n B (0 + p * 4) rfl .i64 rfl Hlts.out) hS.out ?_; simp only [Act.put, List.setIfInBounds_toArray, List.set_cons_zero, List.set_cons_succ]
                refine rn_one (i := 18) (dst := none) rfl (by kernel_rfl) rfl rfl (fun K hK => ?_)
                refine ow_store 23 _ _ (.slice A9 ((G (p * 4 + s)).length + 1) c9) v rfl ⟨B, 0 + p * 4 + s * 1, none⟩ info23n rfl rfl rfl rfl (by rw [Nat.zero_add, Nat.mul_one]; exact HcB.out) (by rw [Nat.zero_add, Nat.mul_one]; exact HfB.out) ?_
                refine hK _ _ (fun h => by simp at h) ?_
                clear hK K
                refine rn_done (by kernel_rfl) ?_ _
                simp only [Act.put, List.setIfInBounds_toArray, List.set_cons_zero, List.set_cons_succ]
                rw [Nat.zero_add, Nat.mul_one]
                have HAs := Hd.mk (HA9.out.other ⟨B, p * 4 + s, none⟩ (.slice A9 ((G (p * 4 + s)).length + 1) c9) hXB1.out)
                have HPs := Hd.mk (HP9.out.other ⟨B, p * 4 + s, none⟩ (.slice A9 ((G (p * 4 + s)).length + 1) c9) hXB2.out)
                go_wp2_with fail
                exact ⟨⟨s + 1, by go_num, Hlts.out, HMd, HAs, HPs⟩, by have := Hlts.out; simp [intOf]; omega⟩
              · have e : s = 4 := by omega
                subst e
                rw [show ((4 : Nat) : Int) = 4 from rfl]
                have HM4 := HMs.out.drop
                rw [hf4.out] at HM4
                have HM4 := Hd.mk HM4
                clear hlts hs
                go_wp2_with fail
                exact ⟨⟨k + 1, by go_num, Hlt.out, HM4⟩, by have := Hlt.out; simp [intOf]; omega⟩
        · have e : k = m.length := by omega
          subst e
          have hD := HD.out
          rw [List.take_length] at hD
          have HCr := Hd.mk (md_crash hD (Hp.out.old (K1.out.trans hD.since)) Hby.out (fun hne b hb => by
            have h1 := Hp.out.inblk hne b hb
            have := K1.out.size
            omega))
          obtain ⟨hst, hsec⟩ := sectors_law m pick
          have hst256 : ∀ b ∈ (crashM (secM (newM 8) m) pick).st, b.length = 256 := by
            obtain ⟨h1, h2⟩ := crashUpto_ok hD.ok pick _ (Nat.le_refl _)
            exact h2
          have hil : (crashM (secM (newM 8) m) pick).st.flatten.length = 2048 := by
            have h1 := imgUpto_length _ hst256 8 (by omega)
            unfold imgUpto at h1
            rw [List.take_of_length_le (by omega)] at h1
            exact h1
          have hbyte : ∀ p s, p < 8 → s < 4 → ∃ y, y ∈ mayG m (p * 4 + s) ∧ ∀ i, i < 64 → (crashM (secM (newM 8) m) pick).st.flatten[p * 256 + s * 64 + i]? = some y := fun p s hp hs => by
            obtain ⟨y, h1, h2⟩ := hsec p _ (List.getElem?_eq_getElem (by omega)) s hs
            refine ⟨y, h1, fun i hi => ?_⟩
            rw [show p * 256 + s * 64 + i = p * 256 + (s * 64 + i) from by omega, flat_get _ hst256 p (by omega) _ (by omega)]
            exact h2 i hi
          have Hil := Hd.mk hil
          have Hbyte := Hd.mk hbyte
          clear hD HD hst hsec hst256 hil hbyte hlt hk
          have HIm : Hd (∀ w', Md w1 w' B d (crashM (secM (newM 8) m) pick) (mayG m) NoX → Calls Try.prog 14 #[.pointer (some ⟨d, 0, none⟩)] w' fun e w'' => ∃ b o c, e = .returned (.slice (some ⟨b, o, none⟩) 2048 c) ∧ w''.rangeAt b o (u8s (crashM (secM (newM 8) m) pick).st.flatten) ∧ Old w' w'') := ⟨fun w' h => md_image2 h rfl (n := 2047) Hil.out⟩
          generalize crashM (secM (newM 8) m) pick = Mc at *
          generalize Mc.st.flatten = img at *
          go_wp2_with (first
            | (go_at_call 13; (with_reducible refine HCr.out.mono ?_); rintro e w9 ⟨rfl, h9⟩; have M9 := Hd.mk h9; clear h9)
            | (go_at_call 14; (with_reducible refine (HIm.out w9 M9.out).mono ?_); rintro e we ⟨ib, io, ci, rfl, hri, hk⟩; have ME := Hd.mk (M9.out.old hk); have Hri := Hd.mk hri; clear hk hri))
          have hbig : we.heap.size = we.heap.size := rfl
          go_loopw [121] (fun v121 wr => ∃ p : Nat, v121 = .int .i64 p ∧ p ≤ 8 ∧ Hd (Old we wr)) (fun v121 _ => 8 - (intOf v121).toNat)
          case atStart => exact ⟨0, rfl, Nat.zero_le _, ⟨Kp.refl _ _⟩⟩
          case round =>
            obtain ⟨p, rfl, hp, HKp⟩ := hrel
            by_cases hlt : p < 8
            · have hltI : (p : Int) < 8 := by omega
              have Hltp := Hd.mk hlt
              obtain ⟨wo, rfl⟩ : ∃ wo : World, wo = wr := ⟨_, rfl⟩
              clear hlt hp
              go_wp2_with fail
              go_loopw [124] (fun v124 wr => ∃ s : Nat, v124 = .int .i64 s ∧ s ≤ 4 ∧ Hd (Old we wr)) (fun v124 _ => 4 - (intOf v124).toNat)
              case atStart => exact ⟨0, rfl, Nat.zero_le _, HKp⟩
              case round =>
                obtain ⟨s, rfl, hs, HKs⟩ := hrel
                by_cases hlts : s < 4
                · have hltsI : (s : Int) < 4 := by omega
                  have Hlts := Hd.mk hlts
                  obtain ⟨v, hc, -, -, hr, -, -, -⟩ := (ME.out.old HKs.out).row (i := p * 4 + s) (by have := Hltp.out; omega)
                  obtain ⟨y, hy, hyi⟩ := Hbyte.out p s Hltp.out hlts
                  obtain ⟨Av, cv, rfl, hcv⟩ := ownsRow_len hr
                  obtain ⟨wq, rfl⟩ : ∃ wq : World, wq = wr := ⟨_, rfl⟩
                  have Hr := Hd.mk hr
                  have hrg : ∃ gb gq, Av = some ⟨gb, gq, none⟩ ∧ wq.rangeAt gb gq (u8s (mayG m (p * 4 + s))) := by
                    obtain ⟨A', c', e, -, h0⟩ := ownsRow_Bs rfl hr
                    injection e with e1 e2 e3
                    subst e1 e3
                    rcases h0 with h0 | h0
                    · rw [h0] at hy; simp at hy
                    · exact h0
                  obtain ⟨gb, gq, rfl, hrg⟩ := hrg
                  have Hrg := Hd.mk hrg
                  have Hy := Hd.mk hy
                  clear hrg
                  have Hyi := Hd.mk hyi
                  have hgl : ((mayG m (p * 4 + s)).length : Int) ≤ 51 := by have := mayG_length m (p * 4 + s); have := N1.out; omega
                  clear hlts hs hr hy hyi hcv
                  have hat0 : Hd (p * 256 + s * 64 + 64 ≤ 2048) := ⟨by have := Hltp.out; have := Hlts.out; omega⟩
                  have HAt : Hd (wq.cell? ⟨ib, io + (p * 256 + s * 64), none⟩ = some (.int .u8 y)) := ⟨rangeAt_keep Hri.out (HKs.out.block ib (rangeAt_lt Hri.out (by intro e; have := congrArg List.length e; rw [u8s_length, Hil.out] at this; simp at this)) id) _ _ (by rw [u8s_get]; have := Hyi.out 0 (by omega); rw [Nat.add_zero] at this; rw [this]; rfl)⟩
                  generalize mayG m (p * 4 + s) = L at *
                  go_wp2_with fail
                  have hLI : ((L.length : Nat) : Int) ≤ 51 := hgl
                  go_loop [20, 138] (fun v20 v138 => ∃ q : Nat, v138 = .int .i64 q ∧ q ≤ L.length ∧ v20 = .bool (decide (y ∈ L.take q))) (fun _ v138 => L.length - (intOf v138).toNat)
                  case atStart => exact ⟨0, rfl, Nat.zero_le _, by simp⟩
                  case round =>
                    obtain ⟨q, rfl, hq, rfl⟩ := hrel
                    by_cases hltq : q < L.length
                    · have hltqI : (q : Int) < (L.length : Int) := by omega
                      have Hltq := Hd.mk hltq
                      have hcq : wq.cell? ⟨gb, gq + q, none⟩ = some (.int .u8 L[q]) := Hrg.out q _ (by rw [u8s_get, List.getElem?_eq_getElem hltq]; rfl)
                      have hdec : Hd (decide (y ∈ L.take (q + 1)) = (decide (y ∈ L.take q) || decide (L[q] = y))) := ⟨dec_take y L q hltq⟩
                      have hcat := HAt.out
                      generalize L[q] = x at *
                      clear hltq hq
                      generalize hb : decide (y ∈ L.take q) = bq at *
                      clear hb
                      cases bq
                      · by_cases hxy : x = y
                        · have hxB : (x == y) = true := by simpa using hxy
                          have hd := Hd.mk (hdec.out.trans (by simp [hxy] : (false || decide (x = y)) = true))
                          clear hxy hdec
                          go_wp2_with fail
                          exact ⟨⟨q + 1, by go_num, Hltq.out, by rw [hd.out]⟩, by have := Hltq.out; simp [intOf]; omega⟩
                        · have hxB : (x == y) = false := by simpa using hxy
                          have hd := Hd.mk (hdec.out.trans (by simp [hxy] : (false || decide (x = y)) = false))
                          clear hxy hdec
                          go_wp2_with fail
                          exact ⟨⟨q + 1, by go_num, Hltq.out, by rw [hd.out]⟩, by have := Hltq.out; simp [intOf]; omega⟩
                      · have hd := Hd.mk (hdec.out.trans (by simp : (true || decide (x = y)) = true))
                        clear hdec
                        go_wp2_with fail
                        exact ⟨⟨q + 1, by go_num, Hltq.out, by rw [hd.out]⟩, by have := Hltq.out; simp [intOf]; omega⟩
                    · have e : q = L.length := by omega
                      subst e
                      have hyL : decide (y ∈ L.take L.length) = true := by rw [List.take_length]; simpa using Hy.out
                      rw [hyL]
                      clear hltq hq hyL
                      go_wp2_with fail
                      go_loopw [152] (fun v152 wr => ∃ i : Nat, v152 = .int .i64 i ∧ i ≤ 64 ∧ Hd (Old we wr)) (fun v152 _ => 64 - (intOf v152).toNat)
                      case atStart => exact ⟨0, rfl, Nat.zero_le _, HKs⟩
                      case round =>
                        obtain ⟨i, rfl, hi, HKi⟩ := hrel
                        by_cases hlti : i < 64
                        · have hltiI : (i : Int) < 64 := by omega
                          have Hlti := Hd.mk hlti
                          have hcell : ∀ i, i < 64 → wr.cell? ⟨ib, io + (p * 256 + s * 64 + i), none⟩ = some (.int .u8 y) := fun i hi => rangeAt_keep Hri.out (HKi.out.block ib (rangeAt_lt Hri.out (by intro e; have := congrArg List.length e; rw [u8s_length, Hil.out] at this; simp at this)) id) _ _ (by rw [u8s_get, Hyi.out i hi]; rfl)
                          have hc0 := hcell 0 (by omega)
                          rw [Nat.add_zero] at hc0
                          have hS : Hd ((fun W : World => W.cell? ⟨ib, io + (p * 256 + s * 64 + i), none⟩ = some (.int .u8 y) ∧ W.cell? ⟨ib, io + (p * 256 + s * 64), none⟩ = some (.int .u8 y)) wr.drew) := ⟨hcell i hlti, hc0⟩
                          clear hlti hi hcell hc0
                          go_wp2_with fail
                          refine rn_begin (fun W : World => W.cell? ⟨ib, io + (p * 256 + s * 64 + i), none⟩ = some (.int .u8 y) ∧ W.cell? ⟨ib, io + (p * 256 + s * 64), none⟩ = some (.int .u8 y)) (List.range 15) (by kernel_rfl) ?_
                          refine rn_take (i := 0) (dst := some 155) (v := .bool true) rfl (by kernel_rfl) (fun _ _ _ h => h) rfl rfl (fun W hW => ex_move W _ _ rfl rfl) hS.out ?_; simp only [Act.put, List.setIfInBounds_toArray, List.set_cons_zero, List.set_cons_succ]
                          refine rn_take (i := 1) (dst := some 156) (v := .bool (!true)) rfl (by kernel_rfl) (fun _ _ _ h => h) rfl rfl (fun W hW => ex_not W _ _ rfl _ rfl) hS.out ?_; simp only [Act.put, List.setIfInBounds_toArray, List.set_cons_zero, List.set_cons_succ]
                          refine rn_take (i := 2) (dst := some 157) (v := .bool (!true)) rfl (by kernel_rfl) (fun _ _ _ h => h) rfl rfl (fun W hW => ex_move W _ _ rfl rfl) hS.out ?_; simp only [Act.put, List.setIfInBounds_toArray, List.set_cons_zero, List.set_cons_succ]
                          refine rn_take (i := 3) (dst := some 158) (v := .slice (some ⟨ib, io, none⟩) 2048 ci) rfl (by kernel_rfl) (fun _ _ _ h => h) rfl rfl (fun W hW => ex_move W _ _ rfl rfl) hS.out ?_; simp only [Act.put, List.setIfInBounds_toArray, List.set_cons_zero, List.set_cons_succ]
                          refine rn_take (i := 4) (dst := some 159) (v := .int .i64 ((p : Int) * 256 + (s : Int) * 64)) rfl (by kernel_rfl) (fun _ _ _ h => h) rfl rfl (fun W hW => ex_move W _ _ rfl rfl) hS.out ?_; simp only [Act.put, List.setIfInBounds_toArray, List.set_cons_zero, List.set_cons_succ]
                          refine rn_take (i := 5) (dst := some 160) (v := .int .i64 (i : Int)) rfl (by kernel_rfl) (fun _ _ _ h => h) rfl rfl (fun W hW => ex_move W _ _ rfl rfl) hS.out ?_; simp only [Act.put, List.setIfInBounds_toArray, List.set_cons_zero, List.set_cons_succ]
                          refine rn_take (i := 6) (dst := some 161) (v := .int .i64 ((p * 256 + s * 64 + i : Nat) : Int)) rfl (by kernel_rfl) (fun _ _ _ h => h) rfl rfl (fun W hW => by rw [show ((p * 256 + s * 64 + i : Nat) : Int) = ((p : Int) * 256 + (s : Int) * 64) + (i : Int) from by omega]; exact ex_add W _ _ _ _ rfl _ _ rfl rfl (by omega) (by omega)) hS.out ?_; simp only [Act.put, List.setIfInBounds_toArray, List.set_cons_zero, List.set_cons_succ]
                          refine rn_take (i := 7) (dst := some 162) (v := .pointer (some ⟨ib, io + (p * 256 + s * 64 + i) * 1, none⟩)) rfl (by kernel_rfl) (fun _ _ _ h => h) rfl rfl (fun W hW => ex_index W 23 5 _ _ rfl 1 (p * 256 + s * 64 + i) Try.underlying23 info5s ib io _ _ rfl .i64 rfl (by have := hat0.out; have := Hlti.out; omega)) hS.out ?_; simp only [Act.put, List.setIfInBounds_toArray, List.set_cons_zero, List.set_cons_succ]
                          refine rn_take (i := 8) (dst := some 163) (v := .int .u8 y) rfl (by kernel_rfl) (fun _ _ _ h => h) rfl rfl (fun W hW => ex_load W 5 _ _ rfl ⟨ib, io + (p * 256 + s * 64 + i) * 1, none⟩ Try.underlying5 rfl rfl (by rw [Nat.mul_one]; exact hW.1)) hS.out ?_; simp only [Act.put, List.setIfInBounds_toArray, List.set_cons_zero, List.set_cons_succ]
                          refine rn_take (i := 9) (dst := some 164) (v := .slice (some ⟨ib, io, none⟩) 2048 ci) rfl (by kernel_rfl) (fun _ _ _ h => h) rfl rfl (fun W hW => ex_move W _ _ rfl rfl) hS.out ?_; simp only [Act.put, List.setIfInBounds_toArray, List.set_cons_zero, List.set_cons_succ]
                          refine rn_take (i := 10) (dst := some 165) (v := .int .i64 ((p * 256 + s * 64 : Nat) : Int)) rfl (by kernel_rfl) (fun _ _ _ h => h) rfl rfl (fun W hW => by rw [show ((p * 256 + s * 64 : Nat) : Int) = (p : Int) * 256 + (s : Int) * 64 from by omega]; exact ex_move W _ _ rfl rfl) hS.out ?_; simp only [Act.put, List.setIfInBounds_toArray, List.set_cons_zero, List.set_cons_succ]
                          refine rn_take (i := 11) (dst := some 166) (v := .pointer (some ⟨ib, io + (p * 256 + s * 64) * 1, none⟩)) rfl (by kernel_rfl) (fun _ _ _ h => h) rfl rfl (fun W hW => ex_index W 23 5 _ _ rfl 1 (p * 256 + s * 64) Try.underlying23 info5s ib io _ _ rfl .i64 rfl (by have := hat0.out; omega)) hS.out ?_; simp only [Act.put, List.setIfInBounds_toArray, List.set_cons_zero, List.set_cons_succ]
                          refine rn_take (i := 12) (dst := some 167) (v := .int .u8 y) rfl (by kernel_rfl) (fun _ _ _ h => h) rfl rfl (fun W hW => ex_load W 5 _ _ rfl ⟨ib, io + (p * 256 + s * 64) * 1, none⟩ Try.underlying5 rfl rfl (by rw [Nat.mul_one]; exact hW.2)) hS.out ?_; simp only [Act.put, List.setIfInBounds_toArray, List.set_cons_zero, List.set_cons_succ]
                          refine rn_take (i := 13) (dst := some 168) (v := .bool false) rfl (by kernel_rfl) (fun _ _ _ h => h) rfl rfl (fun W hW => ex_neq' W _ _ _ _ rfl .u8 y y rfl rfl false (by simp)) hS.out ?_; simp only [Act.put, List.setIfInBounds_toArray, List.set_cons_zero, List.set_cons_succ]
                          refine rn_take (i := 14) (dst := some 169) (v := .bool false) rfl (by kernel_rfl) (fun _ _ _ h => h) rfl rfl (fun W hW => ex_pick W _ _ _ rfl false _ rfl rfl) hS.out ?_; simp only [Act.put, List.setIfInBounds_toArray, List.set_cons_zero, List.set_cons_succ]
                          refine rn_done (by kernel_rfl) ?_ _
                          clear hS
                          go_wp2_with fail
                          exact ⟨⟨i + 1, by go_num, Hlti.out, ⟨HKi.out.drew⟩⟩, by have := Hlti.out; simp [intOf]; omega⟩
                        · have e : i = 64 := by omega
                          subst e
                          rw [show ((64 : Nat) : Int) = 64 from rfl]
                          clear hlti hi
                          go_wp2_with fail
                          exact ⟨⟨s + 1, by go_num, Hlts.out, HKi⟩, by have := Hlts.out; simp [intOf]; omega⟩
                · have e : s = 4 := by omega
                  subst e
                  rw [show ((4 : Nat) : Int) = 4 from rfl]
                  clear hlts hs
                  go_wp2_with fail
                  exact ⟨⟨p + 1, by go_num, Hltp.out, HKs⟩, by have := Hltp.out; simp [intOf]; omega⟩
            · have e : p = 8 := by omega
              subst e
              clear hlt hp
              go_wp2_with fail
              go_ret
              exact ⟨rfl, K1.out.trans (ME.out.since.trans HKp.out)⟩
theorem sectors_at {w : World} {A : Option Addr} {c : Nat} {l : List OpM} (h : Os w (.slice A l.length c) l) {Ap : Option Addr} {cp : Nat} {pick : List Int} (hp : Bs w (.slice Ap pick.length cp) pick) (hby : Bytes pick) :
    Calls Try.prog 3 #[.slice A l.length c, .slice Ap pick.length cp] w fun e w' => e = .returned (.bool true) ∧ Old w w' := by
  by_cases hn : fewB l = false ∨ 200 < pick.length
  · exact sectors_no h Ap pick.length cp hn
  · simp only [not_or, Bool.not_eq_false] at hn
    exact sectors_yes h hp hby hn.1 (by omega)
end Go.Proofs.Ytkcechpaeilaeaa
