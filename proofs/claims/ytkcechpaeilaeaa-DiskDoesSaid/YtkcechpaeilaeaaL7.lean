/- plays. -/
import Derived.Test.YtkcechpaeilaeaaL6
import Derived.Test.YtkcechpaeilaeaaEz
namespace Go.Proofs.Ytkcechpaeilaeaa
open Go.RowKit
set_option linter.unusedVariables false
set_option linter.unusedSimpArgs false

/-- A device whose power cannot go, with at most K acts behind it. -/
structure Calm (M : DM) (n K : Nat) : Prop where
  off : M.off = false
  armed : M.armed = false
  len : M.st.length = n
  ops : M.ops ≤ K
  ws : M.ws.length ≤ K
theorem Calm.spendsB {M : DM} {n K : Nat} (h : Calm M n K) : spendsB M = true := by simp [Go.Proofs.Ytkcechpaeilaeaa.spendsB, h.armed]
theorem Calm.writeE {M : DM} {n K : Nat} (h : Calm M n K) : writeE M = 0 := by unfold Go.Proofs.Ytkcechpaeilaeaa.writeE; rw [if_pos h.spendsB]
theorem Calm.syncE {M : DM} {n K : Nat} (h : Calm M n K) : syncE M = 0 := by unfold Go.Proofs.Ytkcechpaeilaeaa.syncE; rw [if_neg (by simp [h.off]), if_pos h.spendsB]
theorem Calm.atE {M : DM} {n K : Nat} (h : Calm M n K) (p : Nat) (hp : p < n) : atE M p 256 = 0 := by
  unfold Go.Proofs.Ytkcechpaeilaeaa.atE
  rw [if_neg (by have := h.len; omega)]
  simp [pwrE, h.off]
theorem Calm.writeM_eq {M : DM} {n K : Nat} (h : Calm M n K) (p : Nat) (b : List Int) : writeM M p b = { M with ws := M.ws ++ [(p, b)], ops := M.ops + 1 } := by
  simp [writeM, spendsM, appM, h.armed]
theorem Calm.syncM_eq {M : DM} {n K : Nat} (h : Calm M n K) : syncM M = { M with st := shownAll M, ws := [], ops := M.ops + 1 } := by
  simp [syncM, h.off, h.spendsB, settleM, withSt, spendsM, h.armed]
theorem Calm.write {M : DM} {n K : Nat} (h : Calm M n K) (p : Nat) (b : List Int) : Calm (writeM M p b) n (K + 1) := by
  rw [h.writeM_eq]
  exact ⟨h.off, h.armed, h.len, by have := h.ops; show M.ops + 1 ≤ _; omega, by have := h.ws; simp; omega⟩
theorem Calm.sync {M : DM} {n K : Nat} (h : Calm M n K) : Calm (syncM M) n (K + 1) := by
  rw [h.syncM_eq]
  exact ⟨h.off, h.armed, by show (shownAll M).length = n; simp [shownAll, h.len], by have := h.ops; show M.ops + 1 ≤ _; omega, by simp⟩
theorem Calm.mono {M : DM} {n K K' : Nat} (h : Calm M n K) (hk : K ≤ K') : Calm M n K' := ⟨h.off, h.armed, h.len, by have := h.ops; omega, by have := h.ws; omega⟩
theorem Calm.new (n : Nat) : Calm (newM n) n 0 := ⟨rfl, rfl, by simp [newM], Int.le_refl _, Nat.le_refl _⟩
def playStep (n : Nat) (M : DM) (x : OpM) : DM := if x.act = 2 then syncM M else if 0 ≤ x.p ∧ x.p < n then writeM M x.p.toNat (pageOf x.b) else M
def playsM (n : Nat) (M : DM) (l : List OpM) : DM := l.foldl (playStep n) M
theorem Calm.step {M : DM} {n K : Nat} (h : Calm M n K) (x : OpM) : Calm (playStep n M x) n (K + 1) := by
  unfold playStep
  split
  · exact h.sync
  · split
    · exact h.write _ _
    · exact h.mono (by omega)
theorem playsM_take {n : Nat} {M : DM} {l : List OpM} {k : Nat} (h : k < l.length) : playsM n M (l.take (k + 1)) = playStep n (playsM n M (l.take k)) l[k] := by
  unfold playsM
  rw [List.take_succ_eq_append_getElem h, List.foldl_append]
  rfl
theorem Calm.plays {M : DM} {n K : Nat} (h : Calm M n K) (l : List OpM) : Calm (playsM n M l) n (K + l.length) := by
  induction l generalizing M K with
  | nil => exact h
  | cons x r ih => exact (ih (h.step x)).mono (by simp; omega)

/-- The device lies in blocks that are new since w0, and what was there then is as it was. -/
def Dv (w0 w : World) (d : Nat) (M : DM) : Prop := (∃ F, DiskAt w d M F ∧ ∀ k, F k → w0.heap.size ≤ k) ∧ Old w0 w
theorem Dv.old {w0 w w' : World} {d : Nat} {M : DM} (h : Dv w0 w d M) (k : Old w w') : Dv w0 w' d M := by
  obtain ⟨⟨F, h1, h2⟩, h3⟩ := h
  exact ⟨⟨F, h1.keep k (fun _ _ => id), h2⟩, h3.trans k⟩
theorem dv_sync {w0 w : World} {d n K : Nat} {M : DM} (h : Dv w0 w d M) (hc : Calm M n K) (hK : K < 1073741824) : Calls Try.prog 16 #[.pointer (some ⟨d, 0, none⟩)] w fun e w' => e = .returned (.int .i64 0) ∧ Dv w0 w' d (syncM M) := by
  obtain ⟨⟨F, h1, h2⟩, h3⟩ := h
  have := sync_at h1 (by have := hc.ops; omega)
  rw [hc.syncE] at this
  refine this.mono ?_
  rintro e w' ⟨rfl, h4, h5⟩
  exact ⟨rfl, ⟨F, h4, h2⟩, h3.andThen h5 (fun i hi hf => by have := h2 i hf; omega)⟩
theorem dv_write {w0 w1 w : World} {d n K : Nat} {M : DM} (h : Dv w0 w1 d M) (hk : Old w1 w) (hc : Calm M n K) (hK : K < 1073741824) (p : Nat) (hp : p < n) (b : Nat) (t : TypeId) (l : List Int) (hl : l.length = 256) (hr : Blk w b (u8s l) t) (hb : w1.heap.size ≤ b) :
    Calls Try.prog 12 #[.pointer (some ⟨d, 0, none⟩), .int .i64 p, .slice (some ⟨b, 0, none⟩) 256 256] w fun e w' => e = .returned (.int .i64 0) ∧ Dv w0 w' d (writeM M p l) ∧ Kp (fun k => k < w1.heap.size) w w' := by
  obtain ⟨⟨F, h1, h2⟩, h3⟩ := h
  have hw := write_yes (h1.keep hk (fun _ _ => id)) p b 0 256 l hl (Blk_range hr) (fun hf => by have := h1.lt _ hf; omega) (hc.atE p hp) (by have := hc.ops; omega) (by have := hc.ws; omega)
  rw [hc.writeE] at hw
  refine hw.mono ?_
  rintro e w' ⟨rfl, ⟨F', h4, h5⟩, h6⟩
  refine ⟨rfl, ⟨⟨F', h4, fun k hk' => ?_⟩, (h3.trans hk).andThen h6 (fun i hi hf => by have := h2 i hf; omega)⟩, h6.mono (fun k _ hf => h1.lt _ hf)⟩
  rcases h5 k hk' with h | h
  · exact h2 k h
  · have a := h3.size; have b := hk.size; omega

theorem nm11 : (Try.f11.name == "runtime.NumGoroutine") = false := by kernel_rfl
theorem bd11 : Try.f11.body.isNone = false := by kernel_rfl
theorem nm12 : (Try.f12.name == "runtime.NumGoroutine") = false := by kernel_rfl
theorem bd12 : Try.f12.body.isNone = false := by kernel_rfl
theorem info23s : (Try.prog.info? 23).map (·.size) = some (0 + 1) := by kernel_rfl
set_option maxRecDepth 20000 in
set_option maxHeartbeats 4000000 in
theorem plays_at {w0 w : World} {d n K c : Nat} {M : DM} {A : Option Addr} {l : List OpM} (h : Dv w0 w d M) (hl : Os w0 (.slice A l.length c) l) (hc : Calm M n K) (hK : K + l.length < 1073741824) (hn : n ≤ 2048) :
    Calls Try.prog 15 #[.pointer (some ⟨d, 0, none⟩), .slice A l.length c, .int .i64 n] w fun e w' => e = .returned (.bool true) ∧ Dv w0 w' d (playsM n M l) := by
  have Hl := Hd.mk hl
  have Hc := Hd.mk hc
  have hKI : (l.length : Int) < 1073741824 := by omega
  have HK := Hd.mk hK
  clear hl hc hK
  have H := Hd.mk h
  clear h
  go_enter Try.func15, Try.ntmps15
  go_wp2_with fail
  go_loopw [12] (fun v12 wr => ∃ k : Nat, v12 = .int .i64 k ∧ k ≤ l.length ∧ Hd (Dv w0 wr d (playsM n M (l.take k)))) (fun v12 _ => l.length - (intOf v12).toNat)
  case atStart => exact ⟨0, rfl, Nat.zero_le _, H⟩
  case round =>
    obtain ⟨k, rfl, hk, HD⟩ := hrel
    by_cases hlt : k < l.length
    · have hltI : (k : Int) < (l.length : Int) := by omega
      have Hlt := Hd.mk hlt
      obtain ⟨A', c', e, -, hr⟩ := Hl.out.old HD.out.2
      injection e with e1 e2 e3
      subst e1 e3
      clear e2
      rcases hr with h0 | ⟨b, o, rfl, hr⟩
      · rw [h0] at hlt; simp at hlt
      obtain ⟨vb, vp, hrg, hbb, hbp, -, -⟩ := hr k _ (List.getElem?_eq_getElem hlt)
      have htk := playsM_take (n := n) (M := M) hlt
      have hcl := (Hc.out.plays (l.take k)).mono (show K + (l.take k).length ≤ K + l.length by rw [List.length_take]; omega)
      generalize l[k] = x at *
      obtain ⟨xa, xp, xn, xb, xpick⟩ := x
      dsimp only at hrg hbb hbp
      generalize playsM n M (l.take k) = Mk at *
      obtain ⟨Ap, cp, rfl, hcp, -⟩ := hbp
      have Hrg := Hd.mk hrg
      have Htk := Hd.mk htk
      have Hcl := Hd.mk hcl
      have Hbb := Hd.mk hbb
      obtain ⟨Ab, cb, rfl, -, -⟩ := hbb
      have hone : Hd (∀ v ∈ [Value.int .i64 xa, .int .i64 xp, .int .i64 xn, .slice Ab xb.length cb, .slice Ap xpick.length cp], v.oneCell' = true) := ⟨by intro v hv; simp at hv; rcases hv with rfl | rfl | rfl | rfl | rfl <;> rfl⟩
      have hi34 : Hd ((Try.prog.info? 34).map (·.size) = some ([Value.int .i64 xa, .int .i64 xp, .int .i64 xn, .slice Ab xb.length cb, .slice Ap xpick.length cp] : List Value).length) := ⟨info34⟩
      have hz34 : Hd (Z5.length = ([Value.int .i64 xa, .int .i64 xp, .int .i64 xn, .slice Ab xb.length cb, .slice Ap xpick.length cp] : List Value).length) := ⟨rfl⟩
      clear hlt hk hr hrg htk hcl hcp
      by_cases ha : xa = 2
      · have hstep : Hd (playStep n Mk ⟨xa, xp, xn, xb, xpick⟩ = syncM Mk) := ⟨by unfold playStep; rw [if_pos ha]⟩
        have haB : (xa == 2) = true := by simp [ha]
        clear ha
        have hD2 := Hd.mk (HD.out.old ((Kp.refl (fun _ => False) wr).alloc (.cells #[Value.int .i64 xa, .int .i64 xp, .int .i64 xn, .slice Ab xb.length cb, .slice Ap xpick.length cp] 34)))
        go_wp2_with (first
          | (with_reducible refine wl_load_mid rfl 34 _ rfl b (o + k * 5) rfl _ Hrg.out Try.underlying34 rfl hi34.out ?_)
          | (with_reducible refine wl_alloc rfl 34 rfl Z5 (zero34 _) ?_)
          | (with_reducible refine wl_store_new rfl 34 _ _ rfl Z5 [.int .i64 xa, .int .i64 xp, .int .i64 xn, .slice Ab xb.length cb, .slice Ap xpick.length cp] rfl rfl hi34.out hz34.out hone.out ?_)
          | (go_at_call 16; refine (dv_sync hD2.out Hcl.out (by have := HK.out; omega)).mono ?_; rintro e w5 ⟨rfl, h5⟩; have H5 := Hd.mk h5; clear h5))
        exact ⟨⟨k + 1, by go_num, Hlt.out, ⟨by rw [Htk.out, hstep.out]; exact H5.out⟩⟩, by have := Hlt.out; simp [intOf]; omega⟩
      · have haB : (xa == 2) = false := by simpa using ha
        by_cases hp : 0 ≤ xp ∧ xp < n
        · obtain ⟨p, rfl⟩ : ∃ p : Nat, xp = p := ⟨xp.toNat, by omega⟩
          have hpn : p < n := by omega
          have hpI : (p : Int) < (n : Int) := by omega
          have hstep : Hd (playStep n Mk ⟨xa, p, xn, xb, xpick⟩ = writeM Mk p (pageOf xb)) := ⟨by unfold playStep; rw [if_neg ha, if_pos hp]; rfl⟩
          have Hpn := Hd.mk hpn
          clear ha hp hpn
          go_wp2_with (first
          | (with_reducible refine wl_load_mid rfl 34 _ rfl b (o + k * 5) rfl _ Hrg.out Try.underlying34 rfl hi34.out ?_)
          | (with_reducible refine wl_alloc rfl 34 rfl Z5 (zero34 _) ?_)
          | (with_reducible refine wl_store_new rfl 34 _ _ rfl Z5 [Value.int .i64 xa, .int .i64 (p : Int), .int .i64 xn, .slice Ab xb.length cb, .slice Ap xpick.length cp] rfl rfl hi34.out hz34.out hone.out ?_))
          have hD2 := Hd.mk (HD.out.old ((Kp.refl (fun _ => False) wr).alloc (.cells [Value.int .i64 xa, .int .i64 (p : Int), .int .i64 xn, .slice Ab xb.length cb, .slice Ap xpick.length cp].toArray 34)))
          have hbk := Hd.mk (Blk.new wr [Value.int .i64 xa, .int .i64 (p : Int), .int .i64 xn, .slice Ab xb.length cb, .slice Ap xpick.length cp] 34)
          have Hb2 := Hd.mk (Hbb.out.old ((Kp.refl (fun _ => False) wr).alloc (.cells [Value.int .i64 xa, .int .i64 (p : Int), .int .i64 xn, .slice Ab xb.length cb, .slice Ap xpick.length cp].toArray 34)))
          have hS : Hd ((fun W : World => W.cell? ⟨wr.heap.size, 1, none⟩ = some (.int .i64 (p : Int)) ∧ W.cell? ⟨wr.heap.size, 3, none⟩ = some (.slice Ab xb.length cb)) (wr.alloc (.cells [Value.int .i64 xa, .int .i64 (p : Int), .int .i64 xn, .slice Ab xb.length cb, .slice Ap xpick.length cp].toArray 34)).drew) := ⟨(hbk.out.cell 1).trans rfl, (hbk.out.cell 3).trans rfl⟩
          refine rn_begin (fun W : World => W.cell? ⟨wr.heap.size, 1, none⟩ = some (.int .i64 (p : Int)) ∧ W.cell? ⟨wr.heap.size, 3, none⟩ = some (.slice Ab xb.length cb)) (List.range 8) (by kernel_rfl) ?_
          refine rn_take (i := 0) (dst := some 27) (v := .pointer (some ⟨d, 0, none⟩)) rfl (by kernel_rfl) (fun _ _ _ h => h) rfl rfl (fun W hW => ex_move W _ _ rfl rfl) hS.out ?_; simp only [Act.put, List.setIfInBounds_toArray, List.set_cons_zero, List.set_cons_succ]
          refine rn_take (i := 1) (dst := some 28) (v := .pointer (some ⟨wr.heap.size, 1, none⟩)) rfl (by kernel_rfl) (fun _ _ _ h => h) rfl rfl (fun W hW => ex_field W 34 1 _ rfl wr.heap.size 0 0 1 Try.underlying34 rfl info3s rfl rfl) hS.out ?_; simp only [Act.put, List.setIfInBounds_toArray, List.set_cons_zero, List.set_cons_succ]
          refine rn_take (i := 2) (dst := some 29) (v := .int .i64 (p : Int)) rfl (by kernel_rfl) (fun _ _ _ h => h) rfl rfl (fun W hW => ex_load W 3 _ _ rfl ⟨wr.heap.size, 1, none⟩ Try.underlying3 rfl rfl hW.1) hS.out ?_; simp only [Act.put, List.setIfInBounds_toArray, List.set_cons_zero, List.set_cons_succ]
          refine rn_take (i := 3) (dst := some 30) (v := .pointer (some ⟨wr.heap.size, 3, none⟩)) rfl (by kernel_rfl) (fun _ _ _ h => h) rfl rfl (fun W hW => ex_field W 34 3 _ rfl wr.heap.size 0 0 3 Try.underlying34 rfl info23s rfl rfl) hS.out ?_; simp only [Act.put, List.setIfInBounds_toArray, List.set_cons_zero, List.set_cons_succ]
          refine rn_take (i := 4) (dst := some 31) (v := .slice Ab xb.length cb) rfl (by kernel_rfl) (fun _ _ _ h => h) rfl rfl (fun W hW => ex_load W 23 _ _ rfl ⟨wr.heap.size, 3, none⟩ Try.underlying23 rfl rfl hW.2) hS.out ?_; simp only [Act.put, List.setIfInBounds_toArray, List.set_cons_zero, List.set_cons_succ]
          refine rn_one (i := 5) (dst := some 32) rfl (by kernel_rfl) rfl rfl (fun K hK => ?_)
          refine ow_call 11 _ _ rfl Try.func11 nm11 bd11 [.slice Ab xb.length cb] rfl (page_at (Hb2.out.old (w' := (wr.alloc (.cells [Value.int .i64 xa, .int .i64 (p : Int), .int .i64 xn, .slice Ab xb.length cb, .slice Ap xpick.length cp].toArray 34)).drew) ((Kp.refl (fun _ => False) _).drew))) ?_
          rintro e w5 ⟨rfl, hb5, hk5, -⟩
          have hlt2 : wr.heap.size < (wr.alloc (.cells [Value.int .i64 xa, .int .i64 (p : Int), .int .i64 xn, .slice Ab xb.length cb, .slice Ap xpick.length cp].toArray 34)).drew.heap.size := by simp
          have hcb := hk5.block wr.heap.size hlt2 id
          have hS5 : Hd ((fun W : World => W.cell? ⟨wr.heap.size, 1, none⟩ = some (.int .i64 (p : Int)) ∧ W.cell? ⟨wr.heap.size, 3, none⟩ = some (.slice Ab xb.length cb)) w5) := ⟨(World.cell?_of_block hcb).trans hS.out.1, (World.cell?_of_block hcb).trans hS.out.2⟩
          refine ⟨_, rfl, hK _ _ (fun _ => hS5.out) ?_⟩
          clear hK K hS
          have hS := hS5
          have HW := Hd.mk (dv_write HD.out (Kp.trans (((Kp.refl (fun _ => False) wr).alloc (.cells [Value.int .i64 xa, .int .i64 (p : Int), .int .i64 xn, .slice Ab xb.length cb, .slice Ap xpick.length cp].toArray 34)).drew) hk5) Hcl.out (by have := HK.out; omega) p Hpn.out _ 5 _ (pageOf_length xb) hb5 (by simp))
          refine rn_one (i := 6) (dst := some 33) rfl (by kernel_rfl) rfl rfl (fun K hK => ?_)
          refine ow_call 12 _ _ rfl Try.func12 nm12 bd12 [.pointer (some ⟨d, 0, none⟩), .int .i64 (p : Int), .slice (some ⟨(wr.alloc (.cells [Value.int .i64 xa, .int .i64 (p : Int), .int .i64 xn, .slice Ab xb.length cb, .slice Ap xpick.length cp].toArray 34)).drew.heap.size, 0, none⟩) 256 256] rfl HW.out ?_
          rintro e w6 ⟨rfl, h6, hk6⟩
          have hcb6 := hk6.block wr.heap.size (Nat.lt_of_lt_of_le hlt2 hk5.size) (by omega)
          have hS6 : Hd ((fun W : World => W.cell? ⟨wr.heap.size, 1, none⟩ = some (.int .i64 (p : Int)) ∧ W.cell? ⟨wr.heap.size, 3, none⟩ = some (.slice Ab xb.length cb)) w6) := ⟨(World.cell?_of_block hcb6).trans hS.out.1, (World.cell?_of_block hcb6).trans hS.out.2⟩
          refine ⟨_, rfl, hK _ _ (fun _ => hS6.out) ?_⟩
          clear hK K hS
          have hS := hS6
          have H6 := Hd.mk h6
          clear h6 hk6 hk5 hb5 hS5 hcb hcb6
          simp only [Act.put, List.setIfInBounds_toArray, List.set_cons_zero, List.set_cons_succ]
          refine rn_take (i := 7) (dst := some 9) (v := .int .i64 0) rfl (by kernel_rfl) (fun _ _ _ h => h) rfl rfl (fun W hW => ex_assign W _ _ rfl rfl) hS.out ?_; simp only [Act.put, List.setIfInBounds_toArray, List.set_cons_zero, List.set_cons_succ]
          refine rn_done (by kernel_rfl) ?_ _
          go_wp2_with fail
          exact ⟨⟨k + 1, by go_num, Hlt.out, ⟨by rw [Htk.out, hstep.out]; exact H6.out⟩⟩, by have := Hlt.out; simp [intOf]; omega⟩
        · have hstep : Hd (playStep n Mk ⟨xa, xp, xn, xb, xpick⟩ = Mk) := ⟨by unfold playStep; rw [if_neg ha, if_neg hp]⟩
          have hD2 := Hd.mk (HD.out.old ((Kp.refl (fun _ => False) wr).alloc (.cells [Value.int .i64 xa, .int .i64 xp, .int .i64 xn, .slice Ab xb.length cb, .slice Ap xpick.length cp].toArray 34)))
          by_cases h0 : 0 ≤ xp
          · have h1 : (n : Int) ≤ xp := by omega
            have h1B : decide (xp < (n : Int)) = false := by simp; omega
            clear ha hp
            go_wp2_with (first
            | (with_reducible refine wl_load_mid rfl 34 _ rfl b (o + k * 5) rfl _ Hrg.out Try.underlying34 rfl hi34.out ?_)
            | (with_reducible refine wl_alloc rfl 34 rfl Z5 (zero34 _) ?_)
            | (with_reducible refine wl_store_new rfl 34 _ _ rfl Z5 [Value.int .i64 xa, .int .i64 xp, .int .i64 xn, .slice Ab xb.length cb, .slice Ap xpick.length cp] rfl rfl hi34.out hz34.out hone.out ?_))
            exact ⟨⟨k + 1, by go_num, Hlt.out, ⟨by rw [Htk.out, hstep.out]; exact hD2.out⟩⟩, by have := Hlt.out; simp [intOf]; omega⟩
          · have h0B : decide (0 ≤ xp) = false := by simp; omega
            have h0I : xp < 0 := by omega
            clear ha hp h0
            go_wp2_with (first
            | (with_reducible refine wl_load_mid rfl 34 _ rfl b (o + k * 5) rfl _ Hrg.out Try.underlying34 rfl hi34.out ?_)
            | (with_reducible refine wl_alloc rfl 34 rfl Z5 (zero34 _) ?_)
            | (with_reducible refine wl_store_new rfl 34 _ _ rfl Z5 [Value.int .i64 xa, .int .i64 xp, .int .i64 xn, .slice Ab xb.length cb, .slice Ap xpick.length cp] rfl rfl hi34.out hz34.out hone.out ?_))
            exact ⟨⟨k + 1, by go_num, Hlt.out, ⟨by rw [Htk.out, hstep.out]; exact hD2.out⟩⟩, by have := Hlt.out; simp [intOf]; omega⟩
    · have e : k = l.length := by omega
      subst e
      have hD := HD.out
      rw [List.take_length] at hD
      have HD2 := Hd.mk hD
      clear hD hlt hk
      go_wp2_with fail
      go_ret
      exact ⟨rfl, HD2.out⟩
end Go.Proofs.Ytkcechpaeilaeaa
