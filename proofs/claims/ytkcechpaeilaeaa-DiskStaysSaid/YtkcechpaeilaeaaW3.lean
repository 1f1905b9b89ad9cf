/- The walk of DiskStays. -/
import Derived.Test.YtkcechpaeilaeaaS1
import Derived.Test.YtkcechpaeilaeaaD9
import Derived.Test.YtkcechpaeilaeaaEy
namespace Go.Proofs.Ytkcechpaeilaeaa
open Go.RowKit
set_option linter.unusedVariables false
set_option linter.unusedSimpArgs false
section
variable {P : Program} {o : Oper} {a : Act}
theorem ex_neq (w : World) (t t2 : Nat) (x y : Operand) (ho : o.op = .binOp .neq t x y t2) (k : IntKind) (p q : Int) (hx : a.eval x = .int k p) (hy : a.eval y = .int k q) (b : Bool) (hb : decide (p ≠ q) = b) : (execOp a.eval o).run P w = .ok (.value (.bool b)) w :=
  ex_cmp w .neq t t2 x y ho k p q hx hy b (by rw [← hb]; by_cases h : p = q <;> simp [Op.intCmp, h] <;> rfl) (fun _ _ => rfl) (by simp [binOp])
end
theorem new9 (w : World) : Calls Try.prog 9 #[.int .i64 9] w fun e w' =>
    ∃ d, e = .returned (.tuple #[.pointer (some ⟨d, 0, none⟩), .int .i64 0]) ∧ Dv w w' d (newM 9) := by
  refine (new_yes w 9 (by omega) (by omega)).mono ?_
  rintro e w' ⟨d, rfl, h1, h2⟩
  exact ⟨d, rfl, ⟨_, h1, fun k hk => hk.1⟩, h2⟩
theorem fewR_tuple (A : Option Addr) (c : Nat) (l : List OpM) : ∃ A' n' c', fewR A c l = .tuple #[.slice A' n' c', .bool (fewB l)] := by
  unfold fewR
  cases fewB l
  · exact ⟨_, _, _, rfl⟩
  · exact ⟨_, _, _, rfl⟩
abbrev pgv (b : Nat) : Value := .slice (some ⟨b, 0, none⟩) 256 256
/-- A row of slices, each a page as it showed. -/
structure WasAt (z : Nat) (wr : World) (v : Value) (k : Nat) (bs : List Nat) (M : DM) : Prop where
  len : bs.length = k
  row : wr.ownsRow 0 23 1 v k (bs.map pgv)
  pg : ∀ i b, bs[i]? = some b → Blk wr b (u8s (shownM M i)) 68 ∧ z ≤ b
  own : ∀ b, v.ownBlock = some b → z ≤ b
theorem WasAt.keep {z : Nat} {w w' : World} {v : Value} {k : Nat} {bs : List Nat} {M : DM} (h : WasAt z w v k bs M) (hb : ∀ b, z ≤ b → b < w.heap.size → w'.heap[b]? = w.heap[b]?) : WasAt z w' v k bs M := by
  obtain ⟨h1, h2, h3, h4⟩ := h
  refine ⟨h1, ownsRow_keep h2 (fun b hv hl => hb b (h4 b hv) hl), fun i b hi => ?_, h4⟩
  obtain ⟨h5, h6⟩ := h3 i b hi
  exact ⟨(hb b h6 (blk_lt h5)).trans h5, h6⟩
theorem WasAt.push {z : Nat} {w w' : World} {v v' : Value} {k b : Nat} {bs : List Nat} {M : DM} (h : WasAt z w v k bs M) (hb : Blk w b (u8s (shownM M k)) 68) (hz : z ≤ b) (hr : w'.ownsRow 0 23 1 v' (k + 1) (bs.map pgv ++ [pgv b]))
    (hk : Kp (fun k => v.ownBlock = some k) w w') (hv : ∀ k, v'.ownBlock = some k → v.ownBlock = some k ∨ w.heap.size ≤ k) (hzw : z ≤ w.heap.size) : WasAt z w' v' (k + 1) (bs ++ [b]) M := by
  obtain ⟨h1, h2, h3, h4⟩ := h
  have hkeep : ∀ b (cs : List Value), Blk w b cs 68 → Blk w' b cs 68 := fun b cs h => hk.keeps h (fun e => by
    obtain ⟨cells, hc⟩ := ownsRow_typed h2 e
    rw [h] at hc
    injection hc with hc
    injection hc with _ hc _
    cases hc)
  refine ⟨by simp [h1], by rw [List.map_append]; exact hr, fun i c hi => ?_, fun c hc => ?_⟩
  · rcases Nat.lt_or_ge i k with hik | hik
    · rw [List.getElem?_append_left (by omega)] at hi
      obtain ⟨h5, h6⟩ := h3 i c hi
      exact ⟨hkeep _ _ h5, h6⟩
    · rw [List.getElem?_append_right (by omega)] at hi
      have : i = k := by
        have := (List.getElem?_eq_some_iff.1 hi).1
        simp at this; omega
      subst this
      simp [h1] at hi
      subst hi
      exact ⟨hkeep _ _ hb, hz⟩
  · rcases hv c hc with h | h
    · exact h4 c h
    · omega
theorem WasAt.cell {z : Nat} {w : World} {v : Value} {k : Nat} {bs : List Nat} {M : DM} (h : WasAt z w v k bs M) {i : Nat} (hi : i < k) : ∃ g cap b, v = .slice (some ⟨g, 0, none⟩) k cap ∧ w.cell? ⟨g, i, none⟩ = some (pgv b) ∧ Blk w b (u8s (shownM M i)) 68 := by
  obtain ⟨h1, h2, h3, h4⟩ := h
  have hg : bs[i]? = some bs[i] := List.getElem?_eq_getElem (by omega)
  rcases h2.2 with ⟨rfl, h0⟩ | ⟨g, cap, cur, rfl, _, hh, hc, _, hcs, ht⟩
  · omega
  · refine ⟨g, cap, bs[i], rfl, ?_, (h3 i _ hg).1⟩
    have := h2.cells (g := g) rfl i (pgv bs[i]) (by rw [List.getElem?_map, hg]; rfl)
    rw [Addr.add_mid, Nat.zero_add] at this
    exact this
theorem WasAt.nil (z : Nat) (w : World) (M : DM) : WasAt z w (.slice none 0 0) 0 [] M := ⟨rfl, ⟨rfl, .inl ⟨rfl, rfl⟩⟩, fun i b hi => by simp at hi, fun b hb => by simp [Value.ownBlock] at hb⟩
theorem run_make_bools (w : World) : (Instr.makeSlice 43 (.int .i64 9) (.int .i64 9)).run Try.prog w = .ok (.slice (some ⟨w.heap.size, 0, none⟩) 9 9) (w.alloc (.cells (boolsM []).toArray 4)) := by kernel_rfl
theorem info23z : (Try.prog.info? 23).map (fun i => (i.zero, i.size, i.bytes)) = some (some (.slice none 0 0), 1, 24) := by kernel_rfl
theorem cells23z : (Value.slice none 0 0).cells.size = 1 := rfl

set_option maxRecDepth 20000 in
set_option maxHeartbeats 4000000 in
theorem stays_no {w : World} {A1 A2 : Option Addr} {c1 c2 : Nat} {l1 l2 : List OpM} (h1 : Os w (.slice A1 l1.length c1) l1) (h2 : Os w (.slice A2 l2.length c2) l2) (Ap : Option Addr) (np cp : Nat) (hno : fewB l1 = false ∨ fewB l2 = false ∨ 200 < np) :
    Calls Try.prog 4 #[.slice A1 l1.length c1, .slice A2 l2.length c2, .slice Ap np cp] w fun e w' => e = .returned (.bool true) ∧ Old w w' := by
  have f1 := few_at h1
  obtain ⟨B1, n1, e1, hr1⟩ := fewR_tuple A1 c1 l1
  obtain ⟨B2, n2, e2, hr2⟩ := fewR_tuple A2 c2 l2
  rw [hr1] at f1
  have f1 := Hd.mk f1
  have f2 : Hd (∀ w', Old w w' → Calls Try.prog 8 #[.slice A2 l2.length c2] w' fun e w'' => e = .returned (.tuple #[.slice B2 n2 e2, .bool (fewB l2)]) ∧ Old w' w'') := ⟨fun w' hk => by rw [← hr2]; exact few_at (h2.old hk)⟩
  clear h1 h2 hr1 hr2
  generalize fewB l1 = b1 at *
  generalize fewB l2 = b2 at *
  cases b1
  all_goals cases b2
  case' true.true =>
    have hp : (200 : Int) < (np : Int) := by simp at hno; omega
  all_goals
    clear hno
    go_enter Try.func4, Try.ntmps4
    go_wp2_with (first
      | (go_at_call 8; (with_reducible refine f1.out.mono ?_); rintro e w1 ⟨rfl, hk1⟩; have K1 := Hd.mk hk1; clear hk1)
      | (go_at_call 8; (with_reducible refine (f2.out w1 K1.out).mono ?_); rintro e w2 ⟨rfl, hk2⟩; have K2 := Hd.mk (K1.out.trans hk2); clear hk2)
      | (go_at_call 9; (with_reducible refine (new9 w2).mono ?_); rintro e w3 ⟨d, rfl, hD3⟩; have K3 := Hd.mk (K2.out.trans hD3.2); clear hD3)
      | (go_at_call 10; (with_reducible refine (live_at w3).mono ?_); rintro e w4 ⟨rfl, hk4⟩; have K4 := Hd.mk (K3.out.trans hk4); clear hk4)
      | (go_at_call 10; (with_reducible refine (live_at w4).mono ?_); rintro e w5 ⟨rfl, hk5⟩; have K5 := Hd.mk (K4.out.trans hk5); clear hk5))
    go_ret
    exact ⟨rfl, K5.out⟩
set_option maxRecDepth 20000 in
set_option maxHeartbeats 4000000 in
theorem stays_yes {w : World} {A1 A2 : Option Addr} {c1 c2 : Nat} {l1 l2 : List OpM} (h1 : Os w (.slice A1 l1.length c1) l1) (h2 : Os w (.slice A2 l2.length c2) l2) {Ap : Option Addr} {cp : Nat} {pick : List Int} (hp : Bs w (.slice Ap pick.length cp) pick) (hby : Bytes pick)
    (hf1 : fewB l1 = true) (hf2 : fewB l2 = true) (hnp : pick.length ≤ 200) :
    Calls Try.prog 4 #[.slice A1 l1.length c1, .slice A2 l2.length c2, .slice Ap pick.length cp] w fun e w' => e = .returned (.bool true) ∧ Old w w' := by
  have f1 := few_at h1
  rw [← fewR_yes A1 c1 l1 hf1 _ rfl] at f1
  have f1 := Hd.mk f1
  have f2 : Hd (∀ w', Old w w' → Calls Try.prog 8 #[.slice A2 l2.length c2] w' fun e w'' => e = .returned (.tuple #[.slice A2 (l2.take 50).length c2, .bool true]) ∧ Old w' w'') := ⟨fun w' hk => by rw [fewR_yes A2 c2 l2 hf2 _ rfl]; exact few_at (h2.old hk)⟩
  have O1 := Hd.mk (h1.take (n := 0) 50)
  have O2 := Hd.mk (h2.take (n := 0) 50)
  have N1 : Hd ((l1.take 50).length ≤ 50) := ⟨by rw [List.length_take]; omega⟩
  have N2 : Hd ((l2.take 50).length ≤ 50) := ⟨by rw [List.length_take]; omega⟩
  have Hp := Hd.mk hp
  have Hby := Hd.mk hby
  have hnpI : (pick.length : Int) ≤ 200 := by omega
  have hm2I : ((l2.take 50).length : Int) ≤ 50 := by rw [List.length_take]; omega
  have hmk := run_make_bools
  clear h1 h2 hf1 hf2 hp hby hnp
  generalize l1.take 50 = m1 at *
  generalize l2.take 50 = m2 at *
  go_enter Try.func4, Try.ntmps4
  go_wp2_with (first
    | (go_at_call 8; (with_reducible refine f1.out.mono ?_); rintro e w1 ⟨rfl, hk1⟩; have K1 := Hd.mk hk1; clear hk1)
    | (go_at_call 8; (with_reducible refine (f2.out w1 K1.out).mono ?_); rintro e w2 ⟨rfl, hk2⟩; have K2 := Hd.mk (K1.out.trans hk2); clear hk2)
    | (go_at_call 9; (with_reducible refine (new9 w2).mono ?_); rintro e w3 ⟨d, rfl, hD3⟩; have D3 := Hd.mk hD3; clear hD3)
    | (go_at_call 10; (with_reducible refine (live_at w3).mono ?_); rintro e w4 ⟨rfl, hk4⟩; have D4 := Hd.mk (D3.out.old hk4); clear hk4)
    | (go_at_call 15; refine (plays_at (n := 9) D4.out (O1.out.old K2.out) (Calm.new 9) (by have := N1.out; omega) (by omega)).mono ?_; rintro e w5 ⟨rfl, hD5⟩; have D5 := Hd.mk hD5; clear hD5)
    | (go_at_call 16; refine (dv_sync D5.out ((Calm.new 9).plays m1) (by have := N1.out; omega)).mono ?_; rintro e w6 ⟨rfl, hD6⟩; have D6 := Hd.mk hD6; clear hD6))
  have hcalm : Hd (Calm (syncM (playsM 9 (newM 9) m1)) 9 51) := ⟨(((Calm.new 9).plays m1).sync).mono (by have := N1.out; omega)⟩
  have hws : Hd ((syncM (playsM 9 (newM 9) m1)).ws = []) := ⟨by rw [((Calm.new 9).plays m1).syncM_eq]⟩
  generalize syncM (playsM 9 (newM 9) m1) = M at *
  have hD6 := D6.out
  obtain ⟨⟨F0, hF1, hF2⟩, hF3⟩ := hD6
  have DF := Hd.mk hF1
  have FG := Hd.mk hF2
  have K6 := Hd.mk (K2.out.trans hF3)
  have BW : Hd (Blk (w6.alloc (.cells (boolsM []).toArray 4)) w6.heap.size (boolsM []) 4) := ⟨Blk.new w6 _ 4⟩
  have Ka : Hd (Old w6 (w6.alloc (.cells (boolsM []).toArray 4))) := ⟨(Kp.refl _ _).alloc _⟩
  have Hz : Hd ((w6.alloc (.cells (boolsM []).toArray 4)).heap.size = w6.heap.size + 1) := ⟨by simp⟩
  clear hF1 hF2 hF3 D6
  generalize hwa : w6.alloc (.cells (boolsM []).toArray 4) = wa at *
  clear hwa
  go_loopw [13, 71] (fun v13 v71 wr => ∃ (k : Nat) (bs : List Nat), v71 = .int .i64 k ∧ k ≤ 9 ∧ Hd (WasAt wa.heap.size wr v13 k bs M) ∧ Hd (Old wa wr)) (fun _ v71 _ => 9 - (intOf v71).toNat)
  case atStart => exact ⟨0, [], rfl, Nat.zero_le _, ⟨WasAt.nil _ _ _⟩, ⟨Kp.refl _ _⟩⟩
  case round =>
    obtain ⟨k, bs, rfl, hk, HW, HK⟩ := hrel
    by_cases hlt : k < 9
    · have hltI : (k : Int) < 9 := by omega
      have Hlt := Hd.mk hlt
      have Hr := Hd.mk (read_yes (DF.out.keep (Ka.out.trans HK.out) (fun _ _ => id)) k (hcalm.out.atE k hlt))
      have HO := Hd.mk HW.out.row
      have H63 := Hd.mk (show k + 1 ≤ maxLen by simp only [maxLen]; omega)
      have H64 := Hd.mk (show (k + 1) * 24 ≤ 140737488355328 by omega)
      clear hlt hk
      go_wp2_with (first
        | (go_at_call 17; refine Hr.out.mono ?_; rintro e w7 ⟨rb, rfl, hrb, hb7, hk7⟩; have B7 := Hd.mk hb7; have Z7 := Hd.mk hrb; have K7 := Hd.mk hk7; have HO7 := Hd.mk (ownsRow_keep HO.out (fun b _ hl => hk7.block b hl id)); have HO8 := Hd.mk (HO7.out.alloc (.cells [pgv rb].toArray 23)); have HN := Hd.mk (Blk_range (Blk.new w7 [pgv rb] 23)); have h1 : Hd (∀ u ∈ [pgv rb], u.oneCell' = true) := ⟨by intro u hu; simp at hu; subst hu; rfl⟩; clear hrb hb7 hk7)
        | ((with_reducible refine wl_append rfl _ _ 42 rfl 23 1 24 Try.underlying42 info23z cells23z Nat.one_pos _ k (bs.map pgv) rfl ?_ _ 0 1 1 [pgv rb] rfl rfl HN.out h1.out H63.out H64.out (by omega) ?_); exact HO8.out; intro v9 w9 h91 h92 h93; have H91 := Hd.mk h91; have H92 := Hd.mk h92; have H93 := Hd.mk h93; clear h91 h92 h93))
      have e8 : Old wa (w7.alloc (.cells [pgv rb].toArray 23)) := (HK.out.trans K7.out).alloc _
      have hz8 := e8.size
      refine ⟨⟨k + 1, bs ++ [rb], by go_num, Hlt.out, ⟨?_⟩, ⟨e8.andThen H92.out (fun i hi e => ?_)⟩⟩, by have := Hlt.out; simp [intOf]; omega⟩
      · refine WasAt.push (HW.out.keep (fun b _ hl => (K7.out.alloc (.cells [pgv rb].toArray 23)).block b hl id)) (B7.out.alloc _) ?_ H91.out H92.out H93.out hz8
        have := HK.out.size; have := Z7.out; omega
      · have := HW.out.own i e
        omega
    · have e : k = 9 := by omega
      subst e
      rw [show ((9 : Nat) : Int) = 9 from rfl]
      have D8 : Hd (Dx F0 (· = w6.heap.size) wr wr d M) := ⟨Dx.start (DF.out.keep (Ka.out.trans HK.out) (fun _ _ => id))⟩
      have BW8 : Hd (Blk wr w6.heap.size (boolsM (m2.take 0)) 4) := ⟨HK.out.keeps BW.out id⟩
      have K8 := Hd.mk (K6.out.trans (Ka.out.trans HK.out))
      have HwX : Hd (¬ F0 w6.heap.size) := ⟨fun h => by have := DF.out.lt _ h; omega⟩
      have HF0 : Hd (∀ k, F0 k → k < w6.heap.size) := ⟨fun k h => DF.out.lt k h⟩
      have Hsz : Hd (w6.heap.size < wr.heap.size) := ⟨by have := HK.out.size; have := Hz.out; omega⟩
      obtain ⟨ws, rfl⟩ : ∃ ws : World, ws = wr := ⟨_, rfl⟩
      clear hlt hk
      go_wp2_with fail
      have Hsince : Hd (∀ wr M', Dx F0 (· = w6.heap.size) ws wr d M' → Old w wr) := ⟨fun wr M' h => h.since K8.out (fun k hk => by have := FG.out k hk; have := K2.out.size; omega) (fun k hk => by have := K6.out.size; omega)⟩
      go_loopw [89] (fun v89 wr => ∃ k : Nat, v89 = .int .i64 k ∧ k ≤ m2.length ∧ Hd (Dx F0 (· = w6.heap.size) ws wr d (behindM M (m2.take k))) ∧ Hd (Blk wr w6.heap.size (boolsM (m2.take k)) 4)) (fun v89 _ => m2.length - (intOf v89).toNat)
      case atStart => exact ⟨0, rfl, Nat.zero_le _, D8, BW8⟩
      case round =>
        obtain ⟨k, rfl, hk, HD, HB⟩ := hrel
        by_cases hlt : k < m2.length
        · have hltI : (k : Int) < (m2.length : Int) := by omega
          have Hlt := Hd.mk hlt
          obtain ⟨A', c', e, -, hr⟩ := O2.out
          injection e with e1 e2 e3
          subst e1 e3
          clear e2
          rcases hr with h0 | ⟨b, o, rfl, hr⟩
          · rw [h0] at hlt; simp at hlt
          obtain ⟨vb, vp, hrg0, hbb, hbp, -, -⟩ := hr k _ (List.getElem?_eq_getElem hlt)
          have hrg := rangeAt_keep hrg0 ((Hsince.out wr _ HD.out).block b (rangeAt_lt hrg0 (by simp)) id)
          clear hrg0
          have htk := behindM_take (M := M) hlt
          have hbs := @boolsM_same m2 k hlt
          have hbt := fun p => @boolsM_set m2 k p hlt
          have hcl := (hcalm.out.behind (m2.take k)).mono (show 51 + (m2.take k).length ≤ 101 by rw [List.length_take]; have := N2.out; omega)
          generalize m2[k] = x at *
          obtain ⟨xa, xp, xn, xb, xpick⟩ := x
          dsimp only at hrg hbb hbp hbs hbt
          generalize behindM M (m2.take k) = Mk at *
          obtain ⟨Ap2, cp2, rfl, hcp, -⟩ := hbp
          have Hrg := Hd.mk hrg
          have Htk := Hd.mk htk
          have Hcl := Hd.mk hcl
          have Hbb := Hd.mk hbb
          have Hbs := Hd.mk hbs
          have Hbt := Hd.mk hbt
          obtain ⟨Ab, cb, rfl, -, -⟩ := hbb
          have hone : Hd (∀ v ∈ [Value.int .i64 xa, .int .i64 xp, .int .i64 xn, .slice Ab xb.length cb, .slice Ap2 xpick.length cp2], v.oneCell' = true) := ⟨by intro v hv; simp at hv; rcases hv with rfl | rfl | rfl | rfl | rfl <;> rfl⟩
          have hi34 : Hd ((Try.prog.info? 34).map (·.size) = some ([Value.int .i64 xa, .int .i64 xp, .int .i64 xn, .slice Ab xb.length cb, .slice Ap2 xpick.length cp2] : List Value).length) := ⟨info34⟩
          have hz34 : Hd (Z5.length = ([Value.int .i64 xa, .int .i64 xp, .int .i64 xn, .slice Ab xb.length cb, .slice Ap2 xpick.length cp2] : List Value).length) := ⟨rfl⟩
          clear hlt hk hr hrg htk hcl hcp hbs hbt
          by_cases ha : xa = 2
          · have hstep : Hd (behindStep Mk ⟨xa, xp, xn, xb, xpick⟩ = Mk) := ⟨by unfold behindStep; rw [if_pos ha]⟩
            have hno : Hd (boolsM (m2.take (k + 1)) = boolsM (m2.take k)) := ⟨Hbs.out (fun p hp => by simp [hitB, ha])⟩
            have haB : (xa != 2) = false := by simp [ha]
            clear ha
            go_wp2_with (first
              | (with_reducible refine wl_load_mid rfl 34 _ rfl b (o + k * 5) rfl _ Hrg.out Try.underlying34 rfl hi34.out ?_)
              | (with_reducible refine wl_alloc rfl 34 rfl Z5 (zero34 _) ?_)
              | (with_reducible refine wl_store_new rfl 34 _ _ rfl Z5 [.int .i64 xa, .int .i64 xp, .int .i64 xn, .slice Ab xb.length cb, .slice Ap2 xpick.length cp2] rfl rfl hi34.out hz34.out hone.out ?_))
            exact ⟨⟨k + 1, by go_num, Hlt.out, ⟨by rw [Htk.out, hstep.out]; exact HD.out.old ((Kp.refl _ _).alloc _)⟩, ⟨by rw [hno.out]; exact HB.out.alloc _⟩⟩, by have := Hlt.out; simp [intOf]; omega⟩
          · have haB : (xa != 2) = true := by simpa using ha
            by_cases hp : 0 ≤ xp ∧ xp < 9
            · obtain ⟨p, rfl⟩ : ∃ p : Nat, xp = p := ⟨xp.toNat, by omega⟩
              have hpn : p < 9 := by omega
              have hpI : (p : Int) < 9 := by omega
              have hstep : Hd (behindStep Mk ⟨xa, p, xn, xb, xpick⟩ = writeM Mk p (pageOf xb)) := ⟨by unfold behindStep; rw [if_neg ha, if_pos hp]; rfl⟩
              have hset : Hd (boolsM (m2.take (k + 1)) = (boolsM (m2.take k)).set p (.bool true)) := ⟨Hbt.out p hpn ha rfl⟩
              have hWc : wr.cell? ⟨w6.heap.size, p, none⟩ = some (.bool ((m2.take k).any (hitB p))) := by rw [HB.out.cell, boolsM_get _ _ hpn]
              have hWf : wr.frozen? ⟨w6.heap.size, p, none⟩ = false := HB.out.free p
              have hWlt : w6.heap.size < wr.heap.size := by have := HD.out.lt; have := Hsz.out; omega
              have Hpn := Hd.mk hpn
              clear ha hp hpn
              generalize (m2.take k).any (hitB p) = oldb at hWc
              go_wp2_with (first
              | (with_reducible refine wl_load_mid rfl 34 _ rfl b (o + k * 5) rfl _ Hrg.out Try.underlying34 rfl hi34.out ?_)
              | (with_reducible refine wl_alloc rfl 34 rfl Z5 (zero34 _) ?_)
              | (with_reducible refine wl_store_new rfl 34 _ _ rfl Z5 [Value.int .i64 xa, .int .i64 (p : Int), .int .i64 xn, .slice Ab xb.length cb, .slice Ap2 xpick.length cp2] rfl rfl hi34.out hz34.out hone.out ?_))
              have HDq := Hd.mk (HD.out.set (W := w6.heap.size) rfl HwX.out Hsz.out p (.bool true))
              have HBq := Hd.mk (HB.out.set p (.bool true))
              rw [← hset.out] at HBq
              have hqs : Hd ((wr.setCell ⟨w6.heap.size, p, none⟩ (.bool true)).heap.size = wr.heap.size) := ⟨by simp⟩
              clear hWc hWf hWlt
              generalize hwq : wr.setCell ⟨w6.heap.size, p, none⟩ (.bool true) = wq at *
              clear hwq
              have HDq2 := Hd.mk (HDq.out.old ((Kp.refl (fun _ => False) wq).alloc (.cells [Value.int .i64 xa, .int .i64 (p : Int), .int .i64 xn, .slice Ab xb.length cb, .slice Ap2 xpick.length cp2].toArray 34)))
              have hbk0 := Blk.new wq [Value.int .i64 xa, .int .i64 (p : Int), .int .i64 xn, .slice Ab xb.length cb, .slice Ap2 xpick.length cp2] 34
              rw [hqs.out] at hbk0
              have hbk := Hd.mk hbk0
              have hqs2 : Hd ((wq.alloc (.cells [Value.int .i64 xa, .int .i64 (p : Int), .int .i64 xn, .slice Ab xb.length cb, .slice Ap2 xpick.length cp2].toArray 34)).heap.size = wr.heap.size + 1) := ⟨by simp [hqs.out]⟩
              clear hbk0
              have Hb2 := Hd.mk (Hbb.out.old (Hsince.out _ _ HDq2.out))
              have HB2 := Hd.mk (HBq.out.alloc (.cells [Value.int .i64 xa, .int .i64 (p : Int), .int .i64 xn, .slice Ab xb.length cb, .slice Ap2 xpick.length cp2].toArray 34))
              clear HBq
              have Hqv : Hd (Old wq (wq.alloc (.cells [Value.int .i64 xa, .int .i64 (p : Int), .int .i64 xn, .slice Ab xb.length cb, .slice Ap2 xpick.length cp2].toArray 34))) := ⟨(Kp.refl _ wq).alloc _⟩
              generalize hwv : wq.alloc (.cells [Value.int .i64 xa, .int .i64 (p : Int), .int .i64 xn, .slice Ab xb.length cb, .slice Ap2 xpick.length cp2].toArray 34) = wv at *
              clear hwv
              have hS : Hd ((fun W : World => W.cell? ⟨wr.heap.size, 1, none⟩ = some (.int .i64 (p : Int)) ∧ W.cell? ⟨wr.heap.size, 3, none⟩ = some (.slice Ab xb.length cb)) wv.drew) := ⟨(hbk.out.cell 1).trans rfl, (hbk.out.cell 3).trans rfl⟩
              refine rn_begin (fun W : World => W.cell? ⟨wr.heap.size, 1, none⟩ = some (.int .i64 (p : Int)) ∧ W.cell? ⟨wr.heap.size, 3, none⟩ = some (.slice Ab xb.length cb)) (List.range 8) (by kernel_rfl) ?_
              refine rn_take (i := 0) (dst := some 110) (v := .pointer (some ⟨d, 0, none⟩)) rfl (by kernel_rfl) (fun _ _ _ h => h) rfl rfl (fun W hW => ex_move W _ _ rfl rfl) hS.out ?_; simp only [Act.put, List.setIfInBounds_toArray, List.set_cons_zero, List.set_cons_succ]
              refine rn_take (i := 1) (dst := some 111) (v := .pointer (some ⟨wr.heap.size, 1, none⟩)) rfl (by kernel_rfl) (fun _ _ _ h => h) rfl rfl (fun W hW => ex_field W 34 1 _ rfl wr.heap.size 0 0 1 Try.underlying34 rfl info3s rfl rfl) hS.out ?_; simp only [Act.put, List.setIfInBounds_toArray, List.set_cons_zero, List.set_cons_succ]
              refine rn_take (i := 2) (dst := some 112) (v := .int .i64 (p : Int)) rfl (by kernel_rfl) (fun _ _ _ h => h) rfl rfl (fun W hW => ex_load W 3 _ _ rfl ⟨wr.heap.size, 1, none⟩ Try.underlying3 rfl rfl hW.1) hS.out ?_; simp only [Act.put, List.setIfInBounds_toArray, List.set_cons_zero, List.set_cons_succ]
              refine rn_take (i := 3) (dst := some 113) (v := .pointer (some ⟨wr.heap.size, 3, none⟩)) rfl (by kernel_rfl) (fun _ _ _ h => h) rfl rfl (fun W hW => ex_field W 34 3 _ rfl wr.heap.size 0 0 3 Try.underlying34 rfl info23s rfl rfl) hS.out ?_; simp only [Act.put, List.setIfInBounds_toArray, List.set_cons_zero, List.set_cons_succ]
              refine rn_take (i := 4) (dst := some 114) (v := .slice Ab xb.length cb) rfl (by kernel_rfl) (fun _ _ _ h => h) rfl rfl (fun W hW => ex_load W 23 _ _ rfl ⟨wr.heap.size, 3, none⟩ Try.underlying23 rfl rfl hW.2) hS.out ?_; simp only [Act.put, List.setIfInBounds_toArray, List.set_cons_zero, List.set_cons_succ]
              refine rn_one (i := 5) (dst := some 115) rfl (by kernel_rfl) rfl rfl (fun K hK => ?_)
              refine ow_call 11 _ _ rfl Try.func11 nm11 bd11 [.slice Ab xb.length cb] rfl (page_at (Hb2.out.old (w' := wv.drew) ((Kp.refl (fun _ => False) _).drew))) ?_
              rintro e w7 ⟨rfl, hb7, hk7, -⟩
              have hlt2 : wr.heap.size < wv.heap.size := by have := hqs2.out; omega
              have hk7' : Old wv w7 := Kp.trans ((Kp.refl (fun _ => False) wv).drew) hk7
              have hcb := hk7'.block wr.heap.size hlt2 id
              have hS7 : Hd ((fun W : World => W.cell? ⟨wr.heap.size, 1, none⟩ = some (.int .i64 (p : Int)) ∧ W.cell? ⟨wr.heap.size, 3, none⟩ = some (.slice Ab xb.length cb)) w7) := ⟨(World.cell?_of_block hcb).trans hS.out.1, (World.cell?_of_block hcb).trans hS.out.2⟩
              refine ⟨_, rfl, hK _ _ (fun _ => hS7.out) ?_⟩
              clear hK K hS
              have hS := hS7
              have HW7 := Hd.mk (dx_write HDq.out (Hqv.out.trans hk7') Hcl.out (by omega) p Hpn.out _ 5 _ (pageOf_length xb) hb7 (show wq.heap.size ≤ wv.drew.heap.size by have := Hqv.out.size; exact this))
              refine rn_one (i := 6) (dst := some 116) rfl (by kernel_rfl) rfl rfl (fun K hK => ?_)
              refine ow_call 12 _ _ rfl Try.func12 nm12 bd12 [.pointer (some ⟨d, 0, none⟩), .int .i64 (p : Int), .slice (some ⟨wv.drew.heap.size, 0, none⟩) 256 256] rfl HW7.out ?_
              rintro e w8 ⟨rfl, h8, hk8⟩
              have hW8 : w8.heap[w6.heap.size]? = wv.heap[w6.heap.size]? := (hk8.block _ (by have := Hsz.out; have := HD.out.lt; have := hk7'.size; omega) (fun h => by
                rcases h.2 with h | h
                · exact HwX.out h
                · have := Hsz.out; omega)).trans (hk7'.block _ (by have := Hsz.out; have := HD.out.lt; omega) id)
              have hcb8 := hk8.block wr.heap.size (Nat.lt_of_lt_of_le hlt2 hk7'.size) (fun h => by have := h.1; have := hqs.out; omega)
              have hS8 : Hd ((fun W : World => W.cell? ⟨wr.heap.size, 1, none⟩ = some (.int .i64 (p : Int)) ∧ W.cell? ⟨wr.heap.size, 3, none⟩ = some (.slice Ab xb.length cb)) w8) := ⟨(World.cell?_of_block hcb8).trans hS.out.1, (World.cell?_of_block hcb8).trans hS.out.2⟩
              refine ⟨_, rfl, hK _ _ (fun _ => hS8.out) ?_⟩
              clear hK K hS
              have H8 := Hd.mk h8
              have HBW := Hd.mk (show Blk w8 w6.heap.size (boolsM (m2.take (k + 1))) 4 from hW8.trans HB2.out)
              clear h8 hk8 hk7 hk7' hb7 hS7 hcb hW8 hcb8
              have hS := hS8
              simp only [Act.put, List.setIfInBounds_toArray, List.set_cons_zero, List.set_cons_succ]
              refine rn_one (i := 7) (dst := some 117) rfl (by kernel_rfl) rfl rfl (fun K hK => ?_)
              refine ow_run (ex_neq _ 27 27 _ _ rfl .i64 0 0 rfl rfl false (by decide)) ?_
              refine hK _ _ (fun _ => hS8.out) ?_
              clear hK K hS8 hS
              refine rn_done (by kernel_rfl) ?_ _
              go_wp2_with fail
              exact ⟨⟨k + 1, by go_num, Hlt.out, ⟨by rw [Htk.out, hstep.out]; exact H8.out⟩, HBW⟩, by have := Hlt.out; simp [intOf]; omega⟩
            · have hstep : Hd (behindStep Mk ⟨xa, xp, xn, xb, xpick⟩ = Mk) := ⟨by unfold behindStep; rw [if_neg ha, if_neg hp]⟩
              have hno : Hd (boolsM (m2.take (k + 1)) = boolsM (m2.take k)) := ⟨Hbs.out (fun p hp' => by
                have : (xp == (p : Int)) = false := by simp; omega
                simp [hitB, this])⟩
              by_cases h0 : 0 ≤ xp
              · have h1 : (9 : Int) ≤ xp := by omega
                have h1B : decide (xp < (9 : Int)) = false := by simp; omega
                clear ha hp
                go_wp2_with (first
                | (with_reducible refine wl_load_mid rfl 34 _ rfl b (o + k * 5) rfl _ Hrg.out Try.underlying34 rfl hi34.out ?_)
                | (with_reducible refine wl_alloc rfl 34 rfl Z5 (zero34 _) ?_)
                | (with_reducible refine wl_store_new rfl 34 _ _ rfl Z5 [.int .i64 xa, .int .i64 xp, .int .i64 xn, .slice Ab xb.length cb, .slice Ap2 xpick.length cp2] rfl rfl hi34.out hz34.out hone.out ?_))
                exact ⟨⟨k + 1, by go_num, Hlt.out, ⟨by rw [Htk.out, hstep.out]; exact HD.out.old ((Kp.refl _ _).alloc _)⟩, ⟨by rw [hno.out]; exact HB.out.alloc _⟩⟩, by have := Hlt.out; simp [intOf]; omega⟩
              · have h0B : decide (0 ≤ xp) = false := by simp; omega
                have h0I : xp < 0 := by omega
                clear ha hp h0
                go_wp2_with (first
                | (with_reducible refine wl_load_mid rfl 34 _ rfl b (o + k * 5) rfl _ Hrg.out Try.underlying34 rfl hi34.out ?_)
                | (with_reducible refine wl_alloc rfl 34 rfl Z5 (zero34 _) ?_)
                | (with_reducible refine wl_store_new rfl 34 _ _ rfl Z5 [.int .i64 xa, .int .i64 xp, .int .i64 xn, .slice Ab xb.length cb, .slice Ap2 xpick.length cp2] rfl rfl hi34.out hz34.out hone.out ?_))
                exact ⟨⟨k + 1, by go_num, Hlt.out, ⟨by rw [Htk.out, hstep.out]; exact HD.out.old ((Kp.refl _ _).alloc _)⟩, ⟨by rw [hno.out]; exact HB.out.alloc _⟩⟩, by have := Hlt.out; simp [intOf]; omega⟩
        · have e : k = m2.length := by omega
          subst e
          have hD := HD.out
          rw [List.take_length] at hD
          have hBW := HB.out
          rw [List.take_length] at hBW
          have hcl := hcalm.out.behind m2
          have Hcl := Hd.mk (hcl.crash hD.ok pick)
          have hBp := Hd.mk (Hp.out.old (Hsince.out _ _ hD))
          have HC := Hd.mk (dx_crash hD hBp.out Hby.out (fun hne b hb => by
            have h1 := Hp.out.inblk hne b hb
            have h2 := K8.out.size
            exact ⟨by omega, fun hf => by have := FG.out b hf; have := K2.out.size; omega⟩))
          have HBW := Hd.mk hBW
          have Hlaw : Hd (∀ p, m2.any (hitB p) = false → shownM (crashM (behindM M m2) pick) p = shownM M p) := ⟨fun p h => stays_law hcalm.out hws.out m2 pick p h⟩
          have Hpl : Hd (∀ p, p < 9 → (shownM (crashM (behindM M m2) pick) p).length = 256) := ⟨fun p hp => shownM_length (by
            obtain ⟨h1, h2⟩ := crashUpto_ok hD.ok pick _ (Nat.le_refl _)
            exact (hD.ok.withSt h1 h2).wake) (by rw [Hcl.out.len]; exact hp)⟩
          clear hD hBW hcl HD HB hlt hk D8 BW8
          go_wp2_with (first
            | (go_at_call 13; (with_reducible refine HC.out.mono ?_); rintro e w9 ⟨rfl, h9, hk9⟩; have D9 := Hd.mk h9; have B9 := Hd.mk (hk9.keeps HBW.out (fun h => by
                rcases h with h | h
                · exact HwX.out h
                · have := Hsz.out; omega)); clear h9 hk9)
            | (go_at_call 18; (with_reducible refine (dx_waits D9.out).mono ?_); rintro e w' ⟨rfl, rfl⟩; rw [crash_still_ws]))
          have HW9 : Hd (WasAt wa.heap.size w9 u13 9 bs M) := ⟨HW.out.keep (fun b hz hl => D9.out.blk hl (fun hf => by have := HF0.out b hf; have := Hz.out; omega) (fun e => by have := Hz.out; omega))⟩
          have K9 := Hd.mk (Hsince.out _ _ D9.out)
          generalize crashM (behindM M m2) pick = Mc at *
          go_loopw [128] (fun v128 wr => ∃ k : Nat, v128 = .int .i64 k ∧ k ≤ 9 ∧ Hd (Old w9 wr)) (fun v128 _ => 9 - (intOf v128).toNat)
          case atStart => exact ⟨0, rfl, Nat.zero_le _, ⟨Kp.refl _ _⟩⟩
          case round =>
            obtain ⟨k, rfl, hk, HK9⟩ := hrel
            by_cases hlt : k < 9
            · have hltI : (k : Int) < 9 := by omega
              have Hlt := Hd.mk hlt
              have Hr := Hd.mk (dx_read (D9.out.old HK9.out) Hcl.out k hlt)
              obtain ⟨g, cap, b, rfl, hcell, hbb⟩ := (HW9.out.keep (w' := wr) (fun b _ hl => HK9.out.block b hl id)).cell hlt
              have hWc : wr.cell? ⟨w6.heap.size, k, none⟩ = some (.bool (m2.any (hitB k))) := by rw [Blk.cell (HK9.out.keeps B9.out id), boolsM_get _ _ hlt]
              have Hcell := Hd.mk hcell
              have HWc := Hd.mk hWc
              have Hbb := Hd.mk hbb
              have hglt : g < wr.heap.size := World.block_lt_of_cell? wr _ hcell
              have hWlt : w6.heap.size < wr.heap.size := World.block_lt_of_cell? wr _ hWc
              have Hglt := Hd.mk hglt
              have HWlt := Hd.mk hWlt
              have Hla := Hlaw.out k
              have Hpk := Hd.mk (Hpl.out k hlt)
              clear hlt hk hcell hbb hWc hglt hWlt
              generalize hab : m2.any (hitB k) = ab at *
              clear hab
              cases ab
              · have Hlb := Hd.mk (Hla rfl)
                clear HW HW9 Hla
                go_wp2_with (first
                  | (go_at_call 17; (with_reducible refine Hr.out.mono ?_); rintro e w10 ⟨rb, rfl, hz, hb, hk⟩; have hc1 : w10.cell? ⟨w6.heap.size, k, none⟩ = some (.bool false) := (World.cell?_of_block (hk.block _ HWlt.out id)).trans HWc.out; have hc2 : w10.cell? ⟨g, k, none⟩ = some (pgv b) := (World.cell?_of_block (hk.block _ Hglt.out id)).trans Hcell.out; have B10 := Hd.mk hb; have Bw := Hd.mk (hk.keeps Hbb.out id); have K10 := Hd.mk (HK9.out.trans hk); clear hz hb hk)
                  | (go_at_call 19; have hs := same_pages B10.out Bw.out Hpk.out (by rw [← Hlb.out]; exact Hpk.out); rw [decide_eq_true Hlb.out] at hs; (with_reducible refine hs.mono ?_); rintro e w11 ⟨rfl, hk⟩; have K11 := Hd.mk (K10.out.trans hk); clear hs hk))
                exact ⟨⟨k + 1, by go_num, Hlt.out, K11⟩, by have := Hlt.out; simp [intOf]; omega⟩
              · clear Hla HW HW9
                go_wp2_with (first
                  | (go_at_call 17; (with_reducible refine Hr.out.mono ?_); rintro e w10 ⟨rb, rfl, hz, hb, hk⟩; have hc1 : w10.cell? ⟨w6.heap.size, k, none⟩ = some (.bool true) := (World.cell?_of_block (hk.block _ HWlt.out id)).trans HWc.out; have K10 := Hd.mk (HK9.out.trans hk); clear hz hb hk))
                exact ⟨⟨k + 1, by go_num, Hlt.out, K10⟩, by have := Hlt.out; simp [intOf]; omega⟩
            · have e : k = 9 := by omega
              subst e
              clear hlt hk
              go_wp2_with fail
              go_ret
              exact ⟨rfl, K9.out.trans HK9.out⟩
theorem stays_at {w : World} {A1 A2 : Option Addr} {c1 c2 : Nat} {l1 l2 : List OpM} (h1 : Os w (.slice A1 l1.length c1) l1) (h2 : Os w (.slice A2 l2.length c2) l2) {Ap : Option Addr} {cp : Nat} {pick : List Int} (hp : Bs w (.slice Ap pick.length cp) pick) (hby : Bytes pick) :
    Calls Try.prog 4 #[.slice A1 l1.length c1, .slice A2 l2.length c2, .slice Ap pick.length cp] w fun e w' => e = .returned (.bool true) ∧ Old w w' := by
  by_cases h : fewB l1 = false ∨ fewB l2 = false ∨ 200 < pick.length
  · exact stays_no h1 h2 Ap pick.length cp h
  · simp only [not_or, Bool.not_eq_false] at h
    exact stays_yes h1 h2 hp hby h.1 h.2.1 (by omega)
end Go.Proofs.Ytkcechpaeilaeaa
