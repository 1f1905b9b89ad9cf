/- does: Arm, Write. -/
import Derived.Test.YtkcechpaeilaeaaR10
namespace Go.Proofs.Ytkcechpaeilaeaa
open Go.RowKit
set_option linter.unusedVariables false
set_option linter.unusedSimpArgs false
section
variable {w0 w : World} {d r : Nat} {M : DM} {X : Nat → Prop} {xa xp xn : Int} {xb xpick : List Int} {Ab Ap : Option Addr} {cb cp : Nat}
set_option maxRecDepth 20000 in
set_option maxHeartbeats 2000000 in
theorem does_arm (h : Tw w0 w d r M M X) (vb vp : Value) (hn : xn ≤ 9223372036854775807) :
    Calls Try.prog 22 #[.pointer (some ⟨d, 0, none⟩), .pointer (some ⟨r, 0, none⟩), .agg #[.int .i64 3, .int .i64 xp, .int .i64 xn, vb, vp]] w fun e w' => e = .returned (.bool true) ∧ Step w0 w w' d r M X := by
  have H := Hd.mk (tw_box (xa := 3) (xp := xp) (xn := xn) h vb vp)
  have K0 := Hd.mk (h.keepOld ((Kp.refl (fun _ => False) w).alloc (.cells (CLS 3 xp xn vb vp).toArray 34)))
  have hB := Hd.mk (Blk.new w (CLS 3 xp xn vb vp) 34)
  have Hn := Hd.mk hn
  clear h hn
  go_enter Try.func22, Try.ntmps22
  go_wp2_with fail
  have hS : Hd ((fun W : World => W.cell? ⟨w.heap.size, 2, none⟩ = some (.int .i64 xn)) (w.alloc (.cells (CLS 3 xp xn vb vp).toArray 34)).drew) := ⟨(Blk.cell hB.out 2).trans rfl⟩
  refine rn_begin (fun W : World => W.cell? ⟨w.heap.size, 2, none⟩ = some (.int .i64 xn)) (List.range 10) (by kernel_rfl) ?_
  refine rn_take (i := 0) (dst := some 71) (v := .pointer (some ⟨d, 0, none⟩)) rfl (by kernel_rfl) (fun _ _ _ h => h) rfl rfl (fun W hW => ex_move W _ _ rfl rfl) hS.out ?_
  simp only [Act.put, List.setIfInBounds_toArray, List.set_cons_zero, List.set_cons_succ]
  refine rn_take (i := 1) (dst := some 72) (v := .pointer (some ⟨w.heap.size, 2, none⟩)) rfl (by kernel_rfl) (fun _ _ _ h => h) rfl rfl (fun W hW => er_field W 34 2 _ rfl w.heap.size 0 0 2 2 (by first | rfl | omega) Try.underlying34 rfl (by kernel_rfl) rfl rfl) hS.out ?_
  simp only [Act.put, List.setIfInBounds_toArray, List.set_cons_zero, List.set_cons_succ]
  refine rn_take (i := 2) (dst := some 73) (v := .int .i64 (xn)) rfl (by kernel_rfl) (fun _ _ _ h => h) rfl rfl (fun W hW => ex_load W 3 _ _ rfl ⟨w.heap.size, 2, none⟩ Try.underlying3 rfl rfl (hW)) hS.out ?_
  simp only [Act.put, List.setIfInBounds_toArray, List.set_cons_zero, List.set_cons_succ]
  refine rn_take (i := 4) (dst := some 75) (v := .pointer (some ⟨r, 0, none⟩)) rfl (by kernel_rfl) (fun _ _ _ h => h) rfl rfl (fun W hW => ex_move W _ _ rfl rfl) hS.out ?_
  simp only [Act.put, List.setIfInBounds_toArray, List.set_cons_zero, List.set_cons_succ]
  refine rn_take (i := 5) (dst := some 76) (v := .pointer (some ⟨w.heap.size, 2, none⟩)) rfl (by kernel_rfl) (fun _ _ _ h => h) rfl rfl (fun W hW => er_field W 34 2 _ rfl w.heap.size 0 0 2 2 (by first | rfl | omega) Try.underlying34 rfl (by kernel_rfl) rfl rfl) hS.out ?_
  simp only [Act.put, List.setIfInBounds_toArray, List.set_cons_zero, List.set_cons_succ]
  refine rn_take (i := 6) (dst := some 77) (v := .int .i64 (xn)) rfl (by kernel_rfl) (fun _ _ _ h => h) rfl rfl (fun W hW => ex_load W 3 _ _ rfl ⟨w.heap.size, 2, none⟩ Try.underlying3 rfl rfl (hW)) hS.out ?_
  simp only [Act.put, List.setIfInBounds_toArray, List.set_cons_zero, List.set_cons_succ]
  refine rn_one (i := 3) (dst := some 74) rfl (by kernel_rfl) rfl rfl (fun K hK => ?_)
  refine ow_call 25 _ _ rfl Try.func25 (by kernel_rfl) (by kernel_rfl) [.pointer (some ⟨d, 0, none⟩), .int .i64 xn] rfl (tw_darm (H.out.old (w' := (w.alloc (.cells (CLS 3 xp xn vb vp).toArray 34)).drew) ((Kp.refl _ _).drew)) xn Hn.out) ?_
  rintro e w1 ⟨rfl, h1, hk1⟩
  have H1 := Hd.mk h1
  have hS1 : Hd ((fun W : World => W.cell? ⟨w.heap.size, 2, none⟩ = some (.int .i64 xn)) w1) := ⟨hk1.cell hS.out (.inr rfl)⟩
  refine ⟨_, rfl, hK _ _ (fun _ => hS1.out) ?_⟩
  have K1 := Hd.mk hk1
  clear hK K hS h1 hk1
  have hS := hS1
  simp only [Act.put, List.setIfInBounds_toArray, List.set_cons_zero, List.set_cons_succ]
  refine rn_one (i := 7) (dst := some 78) rfl (by kernel_rfl) rfl rfl (fun K hK => ?_)
  refine ow_call 44 _ _ rfl Try.func44 (by kernel_rfl) (by kernel_rfl) [.pointer (some ⟨r, 0, none⟩), .int .i64 xn] rfl (tw_rarm H1.out xn Hn.out) ?_
  rintro e w2 ⟨rfl, h2, hk2⟩
  have H2 := Hd.mk h2
  have hS2 : Hd ((fun W : World => W.cell? ⟨w.heap.size, 2, none⟩ = some (.int .i64 xn)) w2) := ⟨hk2.cell hS.out (.inr rfl)⟩
  refine ⟨_, rfl, hK _ _ (fun _ => hS2.out) ?_⟩
  have K2 := Hd.mk hk2
  clear hK K hS hS1 h2 hk2
  have hS := hS2
  simp only [Act.put, List.setIfInBounds_toArray, List.set_cons_zero, List.set_cons_succ]
  refine rn_take (i := 8) (dst := some 79) (v := .bool true) rfl (by kernel_rfl) (fun _ _ _ h => h) rfl rfl (fun W hW => ex_eql W 27 _ _ _ rfl .i64 (armE M xn) (armE M xn) rfl rfl true (by simp)) hS.out ?_
  simp only [Act.put, List.setIfInBounds_toArray, List.set_cons_zero, List.set_cons_succ]
  refine rn_take (i := 9) (dst := some 6) (v := .bool true) rfl (by kernel_rfl) (fun _ _ _ h => h) rfl rfl (fun W hW => ex_assign W _ _ rfl rfl) hS.out ?_
  simp only [Act.put, List.setIfInBounds_toArray, List.set_cons_zero, List.set_cons_succ]
  refine rn_done (by kernel_rfl) ?_ _
  clear hS hS2
  go_wp2_with fail
  go_ret
  exact ⟨rfl, ⟨_, H2.out.sub (fun b hb => .inl hb), arm_grow M xn⟩, K0.out.trans ((K1.out.trans K2.out).sub (fun b hb => .inl hb))⟩
set_option maxRecDepth 20000 in
set_option maxHeartbeats 2000000 in
theorem does_raw (h : Tw w0 w d r M M X) (vp : Value) (hb : Bs w0 (.slice Ab xb.length cb) xb) (hops : M.ops < 1073741824) (hfew : M.ws.length < 1073741824) :
    Calls Try.prog 22 #[.pointer (some ⟨d, 0, none⟩), .pointer (some ⟨r, 0, none⟩), .agg #[.int .i64 1, .int .i64 xp, .int .i64 xn, .slice Ab xb.length cb, vp]] w fun e w' => e = .returned (.bool true) ∧ Step w0 w w' d r M X := by
  have H := Hd.mk (tw_box (xa := 1) (xp := xp) (xn := xn) h (.slice Ab xb.length cb) vp)
  have K0 := Hd.mk (h.keepOld ((Kp.refl (fun _ => False) w).alloc (.cells (CLS 1 xp xn (.slice Ab xb.length cb) vp).toArray 34)))
  have hB := Hd.mk (Blk.new w (CLS 1 xp xn (.slice Ab xb.length cb) vp) 34)
  have Hb : Hd (∀ w', Old w0 w' → Bs w' (.slice Ab xb.length cb) xb) := ⟨fun w' k => hb.keep (fun b hb _ => k.block b hb id)⟩
  have Hin : Hd (xb ≠ [] → ∀ k, (Value.slice Ab xb.length cb).ownBlock = some k → k < w0.heap.size) := ⟨fun hne k hk => hb.inblk hne k hk⟩
  have Hops := Hd.mk hops
  have Hfew := Hd.mk hfew
  clear h hb hops hfew
  go_enter Try.func22, Try.ntmps22
  go_wp2_with fail
  have hS : Hd ((fun W : World => W.cell? ⟨w.heap.size, 1, none⟩ = some (.int .i64 xp) ∧ W.cell? ⟨w.heap.size, 3, none⟩ = some (.slice Ab xb.length cb)) (w.alloc (.cells (CLS 1 xp xn (.slice Ab xb.length cb) vp).toArray 34)).drew) := ⟨(Blk.cell hB.out 1).trans rfl, (Blk.cell hB.out 3).trans rfl⟩
  refine rn_begin (fun W : World => W.cell? ⟨w.heap.size, 1, none⟩ = some (.int .i64 xp) ∧ W.cell? ⟨w.heap.size, 3, none⟩ = some (.slice Ab xb.length cb)) (List.range 14) (by kernel_rfl) ?_
  refine rn_take (i := 0) (dst := some 49) (v := .pointer (some ⟨d, 0, none⟩)) rfl (by kernel_rfl) (fun _ _ _ h => h) rfl rfl (fun W hW => ex_move W _ _ rfl rfl) hS.out ?_
  simp only [Act.put, List.setIfInBounds_toArray, List.set_cons_zero, List.set_cons_succ]
  refine rn_take (i := 1) (dst := some 50) (v := .pointer (some ⟨w.heap.size, 1, none⟩)) rfl (by kernel_rfl) (fun _ _ _ h => h) rfl rfl (fun W hW => er_field W 34 1 _ rfl w.heap.size 0 0 1 1 (by first | rfl | omega) Try.underlying34 rfl (by kernel_rfl) rfl rfl) hS.out ?_
  simp only [Act.put, List.setIfInBounds_toArray, List.set_cons_zero, List.set_cons_succ]
  refine rn_take (i := 2) (dst := some 51) (v := .int .i64 (xp)) rfl (by kernel_rfl) (fun _ _ _ h => h) rfl rfl (fun W hW => ex_load W 3 _ _ rfl ⟨w.heap.size, 1, none⟩ Try.underlying3 rfl rfl (hW.1)) hS.out ?_
  simp only [Act.put, List.setIfInBounds_toArray, List.set_cons_zero, List.set_cons_succ]
  refine rn_take (i := 3) (dst := some 52) (v := .pointer (some ⟨w.heap.size, 3, none⟩)) rfl (by kernel_rfl) (fun _ _ _ h => h) rfl rfl (fun W hW => er_field W 34 3 _ rfl w.heap.size 0 0 3 3 (by first | rfl | omega) Try.underlying34 rfl (by kernel_rfl) rfl rfl) hS.out ?_
  simp only [Act.put, List.setIfInBounds_toArray, List.set_cons_zero, List.set_cons_succ]
  refine rn_take (i := 4) (dst := some 53) (v := .slice Ab xb.length cb) rfl (by kernel_rfl) (fun _ _ _ h => h) rfl rfl (fun W hW => ex_load W 23 _ _ rfl ⟨w.heap.size, 3, none⟩ Try.underlying23 rfl rfl (hW.2)) hS.out ?_
  simp only [Act.put, List.setIfInBounds_toArray, List.set_cons_zero, List.set_cons_succ]
  refine rn_take (i := 6) (dst := some 55) (v := .pointer (some ⟨r, 0, none⟩)) rfl (by kernel_rfl) (fun _ _ _ h => h) rfl rfl (fun W hW => ex_move W _ _ rfl rfl) hS.out ?_
  simp only [Act.put, List.setIfInBounds_toArray, List.set_cons_zero, List.set_cons_succ]
  refine rn_take (i := 7) (dst := some 56) (v := .pointer (some ⟨w.heap.size, 1, none⟩)) rfl (by kernel_rfl) (fun _ _ _ h => h) rfl rfl (fun W hW => er_field W 34 1 _ rfl w.heap.size 0 0 1 1 (by first | rfl | omega) Try.underlying34 rfl (by kernel_rfl) rfl rfl) hS.out ?_
  simp only [Act.put, List.setIfInBounds_toArray, List.set_cons_zero, List.set_cons_succ]
  refine rn_take (i := 8) (dst := some 57) (v := .int .i64 (xp)) rfl (by kernel_rfl) (fun _ _ _ h => h) rfl rfl (fun W hW => ex_load W 3 _ _ rfl ⟨w.heap.size, 1, none⟩ Try.underlying3 rfl rfl (hW.1)) hS.out ?_
  simp only [Act.put, List.setIfInBounds_toArray, List.set_cons_zero, List.set_cons_succ]
  refine rn_take (i := 9) (dst := some 58) (v := .pointer (some ⟨w.heap.size, 3, none⟩)) rfl (by kernel_rfl) (fun _ _ _ h => h) rfl rfl (fun W hW => er_field W 34 3 _ rfl w.heap.size 0 0 3 3 (by first | rfl | omega) Try.underlying34 rfl (by kernel_rfl) rfl rfl) hS.out ?_
  simp only [Act.put, List.setIfInBounds_toArray, List.set_cons_zero, List.set_cons_succ]
  refine rn_take (i := 10) (dst := some 59) (v := .slice Ab xb.length cb) rfl (by kernel_rfl) (fun _ _ _ h => h) rfl rfl (fun W hW => ex_load W 23 _ _ rfl ⟨w.heap.size, 3, none⟩ Try.underlying23 rfl rfl (hW.2)) hS.out ?_
  simp only [Act.put, List.setIfInBounds_toArray, List.set_cons_zero, List.set_cons_succ]
  refine rn_one (i := 5) (dst := some 54) rfl (by kernel_rfl) rfl rfl (fun K hK => ?_)
  refine ow_call 12 _ _ rfl Try.func12 (by kernel_rfl) (by kernel_rfl) [.pointer (some ⟨d, 0, none⟩), .int .i64 xp, .slice Ab xb.length cb] rfl (tw_dwrite (H.out.old (w' := (w.alloc (.cells (CLS 1 xp xn (.slice Ab xb.length cb) vp).toArray 34)).drew) ((Kp.refl _ _).drew)) xp (Hb.out _ (H.out.since.drew)) (fun hne k hk => .inr (Hin.out hne k hk)) Hops.out Hfew.out) ?_
  rintro e w1 ⟨rfl, h1, hk1⟩
  have H1 := Hd.mk h1
  have hS1 : Hd ((fun W : World => W.cell? ⟨w.heap.size, 1, none⟩ = some (.int .i64 xp) ∧ W.cell? ⟨w.heap.size, 3, none⟩ = some (.slice Ab xb.length cb)) w1) := ⟨hk1.cell hS.out.1 (.inr rfl), hk1.cell hS.out.2 (.inr rfl)⟩
  refine ⟨_, rfl, hK _ _ (fun _ => hS1.out) ?_⟩
  have K1 := Hd.mk hk1
  clear hK K hS h1 hk1
  have hS := hS1
  simp only [Act.put, List.setIfInBounds_toArray, List.set_cons_zero, List.set_cons_succ]
  refine rn_one (i := 11) (dst := some 60) rfl (by kernel_rfl) rfl rfl (fun K hK => ?_)
  refine ow_call 42 _ _ rfl Try.func42 (by kernel_rfl) (by kernel_rfl) [.pointer (some ⟨r, 0, none⟩), .int .i64 xp, .slice Ab xb.length cb] rfl (tw_rwrite H1.out xp (Hb.out _ H1.out.since) Hops.out Hfew.out) ?_
  rintro e w2 ⟨rfl, h2, hk2⟩
  have H2 := Hd.mk h2
  have hS2 : Hd ((fun W : World => W.cell? ⟨w.heap.size, 1, none⟩ = some (.int .i64 xp) ∧ W.cell? ⟨w.heap.size, 3, none⟩ = some (.slice Ab xb.length cb)) w2) := ⟨hk2.cell hS.out.1 (.inr rfl), hk2.cell hS.out.2 (.inr rfl)⟩
  refine ⟨_, rfl, hK _ _ (fun _ => hS2.out) ?_⟩
  have K2 := Hd.mk hk2
  clear hK K hS hS1 h2 hk2
  have hS := hS2
  simp only [Act.put, List.setIfInBounds_toArray, List.set_cons_zero, List.set_cons_succ]
  refine rn_take (i := 12) (dst := some 61) (v := .bool true) rfl (by kernel_rfl) (fun _ _ _ h => h) rfl rfl (fun W hW => ex_eql W 27 _ _ _ rfl .i64 (dwE M xp xb.length) (dwE M xp xb.length) rfl rfl true (by simp)) hS.out ?_
  simp only [Act.put, List.setIfInBounds_toArray, List.set_cons_zero, List.set_cons_succ]
  refine rn_take (i := 13) (dst := some 6) (v := .bool true) rfl (by kernel_rfl) (fun _ _ _ h => h) rfl rfl (fun W hW => ex_assign W _ _ rfl rfl) hS.out ?_
  simp only [Act.put, List.setIfInBounds_toArray, List.set_cons_zero, List.set_cons_succ]
  refine rn_done (by kernel_rfl) ?_ _
  clear hS hS2
  go_wp2_with fail
  go_ret
  exact ⟨rfl, ⟨_, H2.out.sub (fun b hb => .inl hb), dw_grow M xp xb⟩, K0.out.trans ((K1.out.trans K2.out).sub (fun b hb => .inl hb))⟩
set_option maxRecDepth 20000 in
set_option maxHeartbeats 4000000 in
theorem does_write (h : Tw w0 w d r M M X) (vp : Value) (hb : Bs w0 (.slice Ab xb.length cb) xb) (hops : M.ops < 1073741824) (hfew : M.ws.length < 1073741824) :
    Calls Try.prog 22 #[.pointer (some ⟨d, 0, none⟩), .pointer (some ⟨r, 0, none⟩), .agg #[.int .i64 0, .int .i64 xp, .int .i64 xn, .slice Ab xb.length cb, vp]] w fun e w' => e = .returned (.bool true) ∧ Step w0 w w' d r M X := by
  have H := Hd.mk (tw_box (xa := 0) (xp := xp) (xn := xn) h (.slice Ab xb.length cb) vp)
  have K0 := Hd.mk (h.keepOld ((Kp.refl (fun _ => False) w).alloc (.cells (CLS 0 xp xn (.slice Ab xb.length cb) vp).toArray 34)))
  have hB := Hd.mk (Blk.new w (CLS 0 xp xn (.slice Ab xb.length cb) vp) 34)
  have Hb : Hd (∀ w', Old w0 w' → Bs w' (.slice Ab xb.length cb) xb) := ⟨fun w' k => hb.keep (fun b hb _ => k.block b hb id)⟩
  have Hops := Hd.mk hops
  have Hfew := Hd.mk hfew
  have hsz : Hd ((w.alloc (.cells (CLS 0 xp xn (.slice Ab xb.length cb) vp).toArray 34)).heap.size = w.heap.size + 1) := ⟨by simp⟩
  have hpg : Hd ((pageOf xb).length = 256) := ⟨pageUpto_length _ _⟩
  have Hlx : Hd (∀ x, X x → x < w.heap.size) := ⟨fun x hx => h.ltX hx⟩
  clear h hb hops hfew
  go_enter Try.func22, Try.ntmps22
  go_wp2_with (first
    | (go_at_call 11
       have hpage := page_at (Hb.out _ H.out.since)
       rw [hsz.out] at hpage
       (with_reducible refine hpage.mono ?_)
       rintro e w1 ⟨rfl, hb1, hk1, hs1⟩
       have H1 := Hd.mk (H.out.fence (Y := fun k => WX X w k ∨ k = w.heap.size + 1) hk1 (fun b hb => hb.imp id (fun e => by subst e; have := hsz.out; omega)))
       have K1 := Hd.mk (K0.out.trans ((H.out.keepOld hk1).sub (fun b hb => .inl hb)))
       have B1 := Hd.mk hb1
       have A1 := Hd.mk (hk1.keeps hB.out id)
       have hc1 : w1.cell? ⟨w.heap.size, 1, none⟩ = some (.int .i64 xp) := (Blk.cell A1.out 1).trans rfl
       clear hpage hb1 hk1 hs1)
    | (go_at_call 12
       have hcw := tw_dwrite H1.out xp (v := .slice (some ⟨w.heap.size + 1, 0, none⟩) 256 256) (l := pageOf xb) (by have := Bs_blk' (c := 256) B1.out (by rw [hpg.out]; exact Nat.le_refl _); rw [hpg.out] at this; exact this) (fun hne k hk => .inl (.inr (by simp [Value.ownBlock] at hk; omega))) Hops.out Hfew.out
       (with_reducible refine hcw.mono ?_)
       rintro e w2 ⟨rfl, h2, hk2⟩
       have H2 := Hd.mk h2
       have B2 := Hd.mk (hk2.blk B1.out (.inr rfl))
       have A2 := Hd.mk (hk2.blk A1.out (.inl (.inr rfl)))
       have K2 := Hd.mk (K1.out.trans (hk2.sub (fun b hb => .inl (.inl hb))))
       clear hcw h2 hk2 hc1))
  go_loopw [9, 28] (fun v9 v28 wr => ∃ (k : Nat) (l : List Int), v28 = .int .i64 k ∧ k ≤ 256 ∧ l.length = 256 ∧ Hd (Blk wr (w.heap.size + 1) (u8s l) 5) ∧ Hd (Kp (· = w.heap.size + 1) w2 wr)) (fun _ v28 _ => 256 - (intOf v28).toNat)
  case atStart => exact ⟨0, _, rfl, Nat.zero_le _, hpg.out, B2, ⟨Kp.refl _ _⟩⟩
  case round =>
    obtain ⟨k, l, rfl, hk, hl, HB, HK⟩ := hrel
    by_cases hlt : k < 256
    · have hltI : (k : Int) < 256 := by omega
      have Hlt := Hd.mk hlt
      have Hl := Hd.mk hl
      have hc : wr.cell? ⟨w.heap.size + 1, k, none⟩ = some (.int .u8 (l[k]'(by omega))) := by rw [Blk.cell HB.out, u8s_get, List.getElem?_eq_getElem (by omega)]; rfl
      have hf : wr.frozen? ⟨w.heap.size + 1, k, none⟩ = false := Blk.free HB.out k
      have hfin := fun y => Hd.mk (show Blk (wr.setCell ⟨w.heap.size + 1, k, none⟩ (.int .u8 y)) (w.heap.size + 1) (u8s (l.set k y)) 5 from by rw [← u8s_set]; exact Blk.set HB.out k _)
      generalize l[k]'(by omega) = x at *
      clear hlt hk hl
      go_wp2_with fail
      exact ⟨⟨k + 1, _, by go_num, Hlt.out, by rw [List.length_set]; exact Hl.out, hfin _, ⟨HK.out.cell _ _⟩⟩, by have := Hlt.out; simp [intOf]; omega⟩
    · have e : k = 256 := by omega
      subst e
      have H3 := Hd.mk (H2.out.wrote (HK.out.mono (fun k _ e => .inr e)))
      have A3 := Hd.mk (HK.out.keeps A2.out (by omega))
      have K3 := Hd.mk (K2.out.trans ((H2.out.sub (fun b hb => .inl (.inl hb)) : Tw w0 w2 d r _ _ X).keepKp HK.out (fun x hx e => by have := Hlx.out x hx; omega)))
      clear hlt hk hl
      go_wp2_with fail
      have hS : Hd ((fun W : World => W.cell? ⟨w.heap.size, 1, none⟩ = some (.int .i64 xp) ∧ W.cell? ⟨w.heap.size, 3, none⟩ = some (.slice Ab xb.length cb)) wr.drew) := ⟨(Blk.cell A3.out 1).trans rfl, (Blk.cell A3.out 3).trans rfl⟩
      refine rn_begin (fun W : World => W.cell? ⟨w.heap.size, 1, none⟩ = some (.int .i64 xp) ∧ W.cell? ⟨w.heap.size, 3, none⟩ = some (.slice Ab xb.length cb)) (List.range 10) (by kernel_rfl) ?_
      refine rn_take (i := 0) (dst := some 38) (v := .int .i64 (dwE M xp (pageOf xb).length)) rfl (by kernel_rfl) (fun _ _ _ h => h) rfl rfl (fun W hW => ex_move W _ _ rfl rfl) hS.out ?_
      simp only [Act.put, List.setIfInBounds_toArray, List.set_cons_zero, List.set_cons_succ]
      refine rn_take (i := 1) (dst := some 39) (v := .pointer (some ⟨r, 0, none⟩)) rfl (by kernel_rfl) (fun _ _ _ h => h) rfl rfl (fun W hW => ex_move W _ _ rfl rfl) hS.out ?_
      simp only [Act.put, List.setIfInBounds_toArray, List.set_cons_zero, List.set_cons_succ]
      refine rn_take (i := 2) (dst := some 40) (v := .pointer (some ⟨w.heap.size, 1, none⟩)) rfl (by kernel_rfl) (fun _ _ _ h => h) rfl rfl (fun W hW => er_field W 34 1 _ rfl w.heap.size 0 0 1 1 (by first | rfl | omega) Try.underlying34 rfl (by kernel_rfl) rfl rfl) hS.out ?_
      simp only [Act.put, List.setIfInBounds_toArray, List.set_cons_zero, List.set_cons_succ]
      refine rn_take (i := 3) (dst := some 41) (v := .int .i64 (xp)) rfl (by kernel_rfl) (fun _ _ _ h => h) rfl rfl (fun W hW => ex_load W 3 _ _ rfl ⟨w.heap.size, 1, none⟩ Try.underlying3 rfl rfl (hW.1)) hS.out ?_
      simp only [Act.put, List.setIfInBounds_toArray, List.set_cons_zero, List.set_cons_succ]
      refine rn_take (i := 4) (dst := some 42) (v := .pointer (some ⟨w.heap.size, 3, none⟩)) rfl (by kernel_rfl) (fun _ _ _ h => h) rfl rfl (fun W hW => er_field W 34 3 _ rfl w.heap.size 0 0 3 3 (by first | rfl | omega) Try.underlying34 rfl (by kernel_rfl) rfl rfl) hS.out ?_
      simp only [Act.put, List.setIfInBounds_toArray, List.set_cons_zero, List.set_cons_succ]
      refine rn_take (i := 5) (dst := some 43) (v := .slice Ab xb.length cb) rfl (by kernel_rfl) (fun _ _ _ h => h) rfl rfl (fun W hW => ex_load W 23 _ _ rfl ⟨w.heap.size, 3, none⟩ Try.underlying23 rfl rfl (hW.2)) hS.out ?_
      simp only [Act.put, List.setIfInBounds_toArray, List.set_cons_zero, List.set_cons_succ]
      refine rn_one (i := 6) (dst := some 44) rfl (by kernel_rfl) rfl rfl (fun K hK => ?_)
      refine ow_call 11 _ _ rfl Try.func11 (by kernel_rfl) (by kernel_rfl) [.slice Ab xb.length cb] rfl (page_at (Hb.out wr.drew H3.out.since.drew)) ?_
      rintro e w4 ⟨rfl, hb4, hk4, hs4⟩
      have k4 : Old wr w4 := Kp.trans ((Kp.refl _ wr).drew) hk4
      have H4 := Hd.mk (H3.out.old k4)
      have B4 := Hd.mk hb4
      have A4 := Hd.mk (k4.keeps A3.out id)
      have K4 := Hd.mk (K3.out.trans ((H3.out.keepOld k4).sub (fun b hb => .inl (.inl hb))))
      have hS4 : Hd ((fun W : World => W.cell? ⟨w.heap.size, 1, none⟩ = some (.int .i64 xp) ∧ W.cell? ⟨w.heap.size, 3, none⟩ = some (.slice Ab xb.length cb)) w4) := ⟨(Blk.cell A4.out 1).trans rfl, (Blk.cell A4.out 3).trans rfl⟩
      refine ⟨_, rfl, hK _ _ (fun _ => hS4.out) ?_⟩
      clear hK K hS hb4 hk4 hs4 k4
      have hS := hS4
      simp only [Act.put, List.setIfInBounds_toArray, List.set_cons_zero, List.set_cons_succ]
      refine rn_one (i := 7) (dst := some 45) rfl (by kernel_rfl) rfl rfl (fun K hK => ?_)
      refine ow_call 42 _ _ rfl Try.func42 (by kernel_rfl) (by kernel_rfl) [.pointer (some ⟨r, 0, none⟩), .int .i64 xp, .slice (some ⟨wr.drew.heap.size, 0, none⟩) 256 256] rfl (tw_rwrite H4.out xp (v := .slice (some ⟨wr.drew.heap.size, 0, none⟩) 256 256) (l := pageOf xb) (by have := Bs_blk' (c := 256) B4.out (by rw [hpg.out]; exact Nat.le_refl _); rw [hpg.out] at this; exact this) Hops.out Hfew.out) ?_
      rintro e w5 ⟨rfl, h5, hk5⟩
      have H5 := Hd.mk h5
      have hS5 : Hd ((fun W : World => W.cell? ⟨w.heap.size, 1, none⟩ = some (.int .i64 xp) ∧ W.cell? ⟨w.heap.size, 3, none⟩ = some (.slice Ab xb.length cb)) w5) := ⟨hk5.cell hS.out.1 (.inl (.inr rfl)), hk5.cell hS.out.2 (.inl (.inr rfl))⟩
      refine ⟨_, rfl, hK _ _ (fun _ => hS5.out) ?_⟩
      have K5 := Hd.mk (K4.out.trans (hk5.sub (fun b hb => .inl (.inl hb))))
      clear hK K hS hS4 h5 hk5
      have hS := hS5
      simp only [Act.put, List.setIfInBounds_toArray, List.set_cons_zero, List.set_cons_succ]
      refine rn_take (i := 8) (dst := some 46) (v := .bool true) rfl (by kernel_rfl) (fun _ _ _ h => h) rfl rfl (fun W hW => ex_eql W 27 _ _ _ rfl .i64 (dwE M xp (pageOf xb).length) (dwE M xp (pageOf xb).length) rfl rfl true (by simp)) hS.out ?_
      simp only [Act.put, List.setIfInBounds_toArray, List.set_cons_zero, List.set_cons_succ]
      refine rn_take (i := 9) (dst := some 6) (v := .bool true) rfl (by kernel_rfl) (fun _ _ _ h => h) rfl rfl (fun W hW => ex_assign W _ _ rfl rfl) hS.out ?_
      simp only [Act.put, List.setIfInBounds_toArray, List.set_cons_zero, List.set_cons_succ]
      refine rn_done (by kernel_rfl) ?_ _
      clear hS hS5
      go_wp2_with fail
      go_ret
      exact ⟨rfl, ⟨_, H5.out.sub (fun b hb => .inl (.inl hb)), dw_grow M xp (pageOf xb)⟩, K5.out⟩
end
end Go.Proofs.Ytkcechpaeilaeaa
