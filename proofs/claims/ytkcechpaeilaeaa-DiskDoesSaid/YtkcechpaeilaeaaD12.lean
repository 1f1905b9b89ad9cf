/- Clone. -/
import Derived.Test.YtkcechpaeilaeaaD11
namespace Go.Proofs.Ytkcechpaeilaeaa
open Go.RowKit
set_option linter.unusedVariables false
set_option linter.unusedSimpArgs false

/-- What the clone of the waits answers: nil, an empty row, or a row. -/
theorem cloneRow_at {w : World} {A : Option Addr} {n c : Nat} {xs : List Value} (h : w.ownsRow 0 70 257 (.slice A n c) n xs) (hn : n ≤ 1073741824) (h1 : ∀ u ∈ xs, u.oneCell' = true) :
    Calls Try.prog 40 #[.slice A n c] w fun e w' => ∃ v, e = .returned v ∧ w'.ownsRow 0 70 257 v n xs ∧ (∀ k, v.ownBlock = some k → w.heap.size ≤ k) ∧ Old w w' := by
  obtain ⟨hl, hr⟩ := h
  rcases hr with ⟨e, rfl⟩ | ⟨g, cap, cur, e, _, hh, hc, _, hcs, ht⟩
  · injection e with e1 e2 e3
    subst e1 e3
    have : xs = [] := List.eq_nil_of_length_eq_zero (by simpa using hl)
    subst this
    refine (cloneWaits_nil w).mono ?_
    rintro e w' ⟨rfl, rfl⟩
    exact ⟨_, rfl, ⟨rfl, .inl ⟨rfl, rfl⟩⟩, fun k hk => by simp [Value.ownBlock] at hk, Kp.refl _ _⟩
  · injection e with e1 e2 e3
    subst e1 e3
    by_cases h0 : n = 0
    · subst h0
      have : xs = [] := List.eq_nil_of_length_eq_zero (by simpa using hl)
      subst this
      refine (cloneWaits_zero w g c).mono ?_
      rintro e w' ⟨rfl, hb, hk⟩
      exact ⟨_, rfl, ⟨rfl, .inr ⟨w.heap.size, 0, #[], rfl, Nat.zero_le _, hb, Nat.le_refl _, Nat.zero_le _, rfl, rfl⟩⟩, fun k hk => by have h : some w.heap.size = some k := hk; injection h with h; omega, hk⟩
    · have hb : Blk w g cur.toList 70 := by unfold Blk; rw [Array.toArray_toList]; exact hh
      have hcur : n * 257 ≤ cur.toList.length := by rw [Array.length_toList, hcs]; exact Nat.mul_le_mul_right _ hc
      have := cloneWaits_at (c := c) hb (by omega) hn hcur (by rw [ht]; exact h1)
      rw [ht] at this
      exact this
theorem nm39 : (Try.f39.name == "runtime.NumGoroutine") = false := by kernel_rfl
theorem bd39 : Try.f39.body.isNone = false := by kernel_rfl
theorem nm40 : (Try.f40.name == "runtime.NumGoroutine") = false := by kernel_rfl
theorem bd40 : Try.f40.body.isNone = false := by kernel_rfl
theorem nm41 : (Try.f41.name == "runtime.NumGoroutine") = false := by kernel_rfl
theorem bd41 : Try.f41.body.isNone = false := by kernel_rfl
theorem info61 : (Try.prog.info? 61).map (·.size) = some 7 := by kernel_rfl
theorem info58s1 : (Try.prog.info? 58).map (·.size) = some (0 + 1) := by kernel_rfl
theorem info59s1 : (Try.prog.info? 59).map (·.size) = some (0 + 1) := by kernel_rfl
set_option maxRecDepth 20000 in
set_option maxHeartbeats 4000000 in
theorem clone_at {w : World} {d : Nat} {M : DM} {F : Nat → Prop} (h : DiskAt w d M F) : Calls Try.prog 20 #[.pointer (some ⟨d, 0, none⟩)] w fun e w' =>
    ∃ x, e = .returned (.pointer (some ⟨x, 0, none⟩)) ∧ (∃ F', DiskAt w' x M F' ∧ ∀ k, F' k → w.heap.size ≤ k) ∧ Old w w' := by
  have hno := Hd.mk (none_at h)
  obtain ⟨hok, S, cS, m, wv, spare, L, hp⟩ := h
  obtain ⟨A, cw, rfl, -⟩ := ownsRow_len hp.waits
  have Hp := Hd.mk hp
  have Hok := Hd.mk hok
  have hrg : Hd (w.rangeAt d 0 [Value.slice (some ⟨S, 0, none⟩) M.st.length cS, .slice A M.ws.length cw, .map (some m), .bool M.off, .bool M.armed, .int .i64 M.left, .int .i64 M.ops]) := ⟨Blk_range hp.blk⟩
  have hone : Hd (∀ v ∈ [Value.slice (some ⟨S, 0, none⟩) M.st.length cS, .slice A M.ws.length cw, .map (some m), .bool M.off, .bool M.armed, .int .i64 M.left, .int .i64 M.ops], v.oneCell' = true) := ⟨by intro v hv; simp at hv; rcases hv with rfl | rfl | rfl | rfl | rfl | rfl | rfl <;> rfl⟩
  have hi61 : Hd ((Try.prog.info? 61).map (·.size) = some [Value.slice (some ⟨S, 0, none⟩) M.st.length cS, .slice A M.ws.length cw, .map (some m), .bool M.off, .bool M.armed, .int .i64 M.left, .int .i64 M.ops].length) := ⟨info61⟩
  have hz61 : Hd (Z7.length = [Value.slice (some ⟨S, 0, none⟩) M.st.length cS, .slice A M.ws.length cw, .map (some m), .bool M.off, .bool M.armed, .int .i64 M.left, .int .i64 M.ops].length) := ⟨rfl⟩
  clear hp hok
  go_enter Try.func20, Try.ntmps20
  go_wp2_with (first
    | (go_at_call 33; refine hno.out.mono ?_; rintro e w' ⟨rfl, rfl⟩)
    | (with_reducible refine wl_load_mid rfl 61 _ rfl d 0 rfl _ hrg.out Try.underlying61 rfl hi61.out ?_)
    | (with_reducible refine wl_alloc rfl 61 rfl Z7 (zero61 _) ?_)
    | (with_reducible refine wl_store_new rfl 61 _ _ rfl Z7 [Value.slice (some ⟨S, 0, none⟩) M.st.length cS, .slice A M.ws.length cw, .map (some m), .bool M.off, .bool M.armed, .int .i64 M.left, .int .i64 M.ops] rfl rfl hi61.out hz61.out hone.out ?_))
  simp only [Act.put, List.setIfInBounds_toArray, List.set_cons_zero, List.set_cons_succ]
  have hpos := Hok.out.pos
  have hlen := flat_length u8s 256 M.st (fun x hx => by rw [u8s_length]; exact Hok.out.st x hx)
  have Htk : Hd ((scells M.st ++ spare).take (M.st.length * 256) = scells M.st) := ⟨List.take_left' hlen⟩
  have Hl : Hd (M.st.length * 256 ≤ (scells M.st ++ spare).length) := ⟨by rw [List.length_append]; unfold scells; omega⟩
  have Hone : Hd (∀ u ∈ scells M.st, u.oneCell' = true) := ⟨fun u hu => by obtain ⟨b, _, hb⟩ := List.mem_flatMap.1 hu; exact u8s_one b u hb⟩
  have Honew : Hd (∀ u ∈ wcells M.ws, u.oneCell' = true) := ⟨fun u hu => by
    obtain ⟨b, _, hb⟩ := List.mem_flatMap.1 hu
    rcases List.mem_cons.1 hb with rfl | hb
    · rfl
    · exact u8s_one _ u hb⟩
  have Hpos := Hd.mk hpos
  clear hpos hlen
  have HD1 := Hd.mk (Hp.out.keep ((Kp.refl (fun _ => False) w).alloc (.cells [Value.slice (some ⟨S, 0, none⟩) M.st.length cS, .slice A M.ws.length cw, .map (some m), .bool M.off, .bool M.armed, .int .i64 M.left, .int .i64 M.ops].toArray 61)) (fun _ _ => id))
  have HX1 := Hd.mk (Blk.new w [Value.slice (some ⟨S, 0, none⟩) M.st.length cS, .slice A M.ws.length cw, .map (some m), .bool M.off, .bool M.armed, .int .i64 M.left, .int .i64 M.ops] 61)
  have HK1 := Hd.mk ((Kp.refl (fun _ => False) w).alloc (.cells [Value.slice (some ⟨S, 0, none⟩) M.st.length cS, .slice A M.ws.length cw, .map (some m), .bool M.off, .bool M.armed, .int .i64 M.left, .int .i64 M.ops].toArray 61))
  have Hxs : Hd (w.heap.size < (w.alloc (.cells [Value.slice (some ⟨S, 0, none⟩) M.st.length cS, .slice A M.ws.length cw, .map (some m), .bool M.off, .bool M.armed, .int .i64 M.left, .int .i64 M.ops].toArray 61)).heap.size) := ⟨by simp⟩
  have Hsz : Hd ((w.alloc (.cells [Value.slice (some ⟨S, 0, none⟩) M.st.length cS, .slice A M.ws.length cw, .map (some m), .bool M.off, .bool M.armed, .int .i64 M.left, .int .i64 M.ops].toArray 61)).heap.size = w.heap.size + 1) := ⟨by simp⟩
  change Code.wp Try.prog _ _ _ (w.alloc (.cells [Value.slice (some ⟨S, 0, none⟩) M.st.length cS, .slice A M.ws.length cw, .map (some m), .bool M.off, .bool M.armed, .int .i64 M.left, .int .i64 M.ops].toArray 61))
  generalize hw1 : w.alloc (.cells [Value.slice (some ⟨S, 0, none⟩) M.st.length cS, .slice A M.ws.length cw, .map (some m), .bool M.off, .bool M.armed, .int .i64 M.left, .int .i64 M.ops].toArray 61) = w1 at *
  clear hw1
  have hS : Hd ((fun W : World => W.cell? ⟨d, 0, none⟩ = some (.slice (some ⟨S, 0, none⟩) M.st.length cS) ∧ W.cell? ⟨d, 1, none⟩ = some (.slice A M.ws.length cw) ∧ W.cell? ⟨d, 2, none⟩ = some (.map (some m))) w1.drew) := ⟨HD1.out.c0, HD1.out.c1, HD1.out.c2⟩
  refine rn_begin (fun W : World => W.cell? ⟨d, 0, none⟩ = some (.slice (some ⟨S, 0, none⟩) M.st.length cS) ∧ W.cell? ⟨d, 1, none⟩ = some (.slice A M.ws.length cw) ∧ W.cell? ⟨d, 2, none⟩ = some (.map (some m))) (List.range 21) (by kernel_rfl) ?_
  refine rn_take (i := 0) (dst := some 9) (v := .pointer (some ⟨d, 0, none⟩)) rfl (by kernel_rfl) (fun _ _ _ h => h) rfl rfl (fun W hW => ex_move W _ _ rfl rfl) hS.out ?_; simp only [Act.put, List.setIfInBounds_toArray, List.set_cons_zero, List.set_cons_succ]
  refine rn_take (i := 1) (dst := some 10) (v := .pointer (some ⟨d, 0, none⟩)) rfl (by kernel_rfl) (fun _ _ _ h => h) rfl rfl (fun W hW => ex_nilCheck W _ _ rfl rfl) hS.out ?_; simp only [Act.put, List.setIfInBounds_toArray, List.set_cons_zero, List.set_cons_succ]
  refine rn_take (i := 2) (dst := some 11) (v := .pointer (some ⟨d, 0, none⟩)) rfl (by kernel_rfl) (fun _ _ _ h => h) rfl rfl (fun W hW => ex_field W 61 0 _ rfl d 0 0 0 Try.underlying61 rfl info57 rfl rfl) hS.out ?_; simp only [Act.put, List.setIfInBounds_toArray, List.set_cons_zero, List.set_cons_succ]
  refine rn_take (i := 3) (dst := some 12) (v := .slice (some ⟨S, 0, none⟩) M.st.length cS) rfl (by kernel_rfl) (fun _ _ _ h => h) rfl rfl (fun W hW => ex_load W 57 _ _ rfl ⟨d, 0, none⟩ Try.underlying57 rfl rfl hW.1) hS.out ?_; simp only [Act.put, List.setIfInBounds_toArray, List.set_cons_zero, List.set_cons_succ]
  refine rn_take (i := 5) (dst := some 14) (v := .pointer (some ⟨d, 0, none⟩)) rfl (by kernel_rfl) (fun _ _ _ h => h) rfl rfl (fun W hW => ex_move W _ _ rfl rfl) hS.out ?_; simp only [Act.put, List.setIfInBounds_toArray, List.set_cons_zero, List.set_cons_succ]
  refine rn_take (i := 6) (dst := some 15) (v := .pointer (some ⟨d, 0, none⟩)) rfl (by kernel_rfl) (fun _ _ _ h => h) rfl rfl (fun W hW => ex_nilCheck W _ _ rfl rfl) hS.out ?_; simp only [Act.put, List.setIfInBounds_toArray, List.set_cons_zero, List.set_cons_succ]
  refine rn_take (i := 7) (dst := some 16) (v := .pointer (some ⟨d, 1, none⟩)) rfl (by kernel_rfl) (fun _ _ _ h => h) rfl rfl (fun W hW => ex_field W 61 1 _ rfl d 0 0 1 Try.underlying61 rfl info58s1 rfl rfl) hS.out ?_; simp only [Act.put, List.setIfInBounds_toArray, List.set_cons_zero, List.set_cons_succ]
  refine rn_take (i := 8) (dst := some 17) (v := .slice A M.ws.length cw) rfl (by kernel_rfl) (fun _ _ _ h => h) rfl rfl (fun W hW => ex_load W 58 _ _ rfl ⟨d, 1, none⟩ Try.underlying58 rfl rfl hW.2.1) hS.out ?_; simp only [Act.put, List.setIfInBounds_toArray, List.set_cons_zero, List.set_cons_succ]
  refine rn_take (i := 10) (dst := some 19) (v := .pointer (some ⟨d, 0, none⟩)) rfl (by kernel_rfl) (fun _ _ _ h => h) rfl rfl (fun W hW => ex_move W _ _ rfl rfl) hS.out ?_; simp only [Act.put, List.setIfInBounds_toArray, List.set_cons_zero, List.set_cons_succ]
  refine rn_take (i := 11) (dst := some 20) (v := .pointer (some ⟨d, 0, none⟩)) rfl (by kernel_rfl) (fun _ _ _ h => h) rfl rfl (fun W hW => ex_nilCheck W _ _ rfl rfl) hS.out ?_; simp only [Act.put, List.setIfInBounds_toArray, List.set_cons_zero, List.set_cons_succ]
  refine rn_take (i := 12) (dst := some 21) (v := .pointer (some ⟨d, 2, none⟩)) rfl (by kernel_rfl) (fun _ _ _ h => h) rfl rfl (fun W hW => ex_field W 61 2 _ rfl d 0 0 2 Try.underlying61 rfl info59s1 rfl rfl) hS.out ?_; simp only [Act.put, List.setIfInBounds_toArray, List.set_cons_zero, List.set_cons_succ]
  refine rn_take (i := 13) (dst := some 22) (v := .map (some m)) rfl (by kernel_rfl) (fun _ _ _ h => h) rfl rfl (fun W hW => ex_load W 59 _ _ rfl ⟨d, 2, none⟩ Try.underlying59 rfl rfl hW.2.2) hS.out ?_; simp only [Act.put, List.setIfInBounds_toArray, List.set_cons_zero, List.set_cons_succ]
  have HP := Hd.mk (clonePages_at (c := cS) (w := w1.drew) HD1.out.stb Hpos.out Hok.out.most Hl.out (by rw [Htk.out]; exact Hone.out))
  refine rn_one (i := 4) (dst := some 13) rfl (by kernel_rfl) rfl rfl (fun K hK => ?_)
  refine ow_call 39 _ _ rfl Try.func39 nm39 bd39 [.slice (some ⟨S, 0, none⟩) M.st.length cS] rfl HP.out ?_
  rintro e w2 ⟨v1, rfl, ho1, hf1, hk1⟩
  obtain ⟨A1, c1, rfl, -⟩ := ownsRow_len ho1
  have k12 : Old w1 w2 := ((Kp.refl (fun _ => False) w1).drew).trans hk1
  have HD2 := Hd.mk (HD1.out.keep k12 (fun _ _ => id))
  have hS2 : Hd ((fun W : World => W.cell? ⟨d, 0, none⟩ = some (.slice (some ⟨S, 0, none⟩) M.st.length cS) ∧ W.cell? ⟨d, 1, none⟩ = some (.slice A M.ws.length cw) ∧ W.cell? ⟨d, 2, none⟩ = some (.map (some m))) w2) := ⟨HD2.out.c0, HD2.out.c1, HD2.out.c2⟩
  refine ⟨_, rfl, hK _ _ (fun _ => hS2.out) ?_⟩
  clear hK K hS
  have hS := hS2
  have hs2 := k12.size
  have HK2 := Hd.mk (HK1.out.trans k12)
  have HX2 := Hd.mk (k12.keeps HX1.out id)
  have HO1 := Hd.mk ho1
  have HF1 := Hd.mk hf1
  simp only [Act.put, List.setIfInBounds_toArray, List.set_cons_zero, List.set_cons_succ]
  have HW := Hd.mk (cloneRow_at HD2.out.waits Hok.out.few Honew.out)
  refine rn_one (i := 9) (dst := some 18) rfl (by kernel_rfl) rfl rfl (fun K hK => ?_)
  refine ow_call 40 _ _ rfl Try.func40 nm40 bd40 [.slice A M.ws.length cw] rfl HW.out ?_
  rintro e w3 ⟨v2, rfl, ho2, hf2, k23⟩
  obtain ⟨A2, c2, rfl, -⟩ := ownsRow_len ho2
  have HD3 := Hd.mk (HD2.out.keep k23 (fun _ _ => id))
  have hS3 : Hd ((fun W : World => W.cell? ⟨d, 0, none⟩ = some (.slice (some ⟨S, 0, none⟩) M.st.length cS) ∧ W.cell? ⟨d, 1, none⟩ = some (.slice A M.ws.length cw) ∧ W.cell? ⟨d, 2, none⟩ = some (.map (some m))) w3) := ⟨HD3.out.c0, HD3.out.c1, HD3.out.c2⟩
  refine ⟨_, rfl, hK _ _ (fun _ => hS3.out) ?_⟩
  clear hK K hS
  have hS := hS3
  have hs3 := k23.size
  have HK3 := Hd.mk (HK2.out.trans k23)
  have HX3 := Hd.mk (k23.keeps HX2.out id)
  have HO2 := Hd.mk ho2
  have HF2 := Hd.mk hf2
  simp only [Act.put, List.setIfInBounds_toArray, List.set_cons_zero, List.set_cons_succ]
  obtain ⟨t, clk, hmb, hmr⟩ := HD3.out.map
  have HM := Hd.mk (mapClone_at w3 m _ clk hmb)
  have Hmr := Hd.mk hmr
  refine rn_one (i := 14) (dst := some 23) rfl (by kernel_rfl) rfl rfl (fun K hK => ?_)
  refine ow_call 41 _ _ rfl Try.func41 nm41 bd41 [.map (some m)] rfl HM.out ?_
  rintro e w4 ⟨rfl, rfl⟩
  have k34 : Old w3 (w3.alloc (.map (t.map ent).toArray clk)) := (Kp.refl (fun _ => False) w3).alloc _
  have HD4 := Hd.mk (HD3.out.keep k34 (fun _ _ => id))
  have hS4 : Hd ((fun W : World => W.cell? ⟨d, 0, none⟩ = some (.slice (some ⟨S, 0, none⟩) M.st.length cS) ∧ W.cell? ⟨d, 1, none⟩ = some (.slice A M.ws.length cw) ∧ W.cell? ⟨d, 2, none⟩ = some (.map (some m))) (w3.alloc (.map (t.map ent).toArray clk))) := ⟨HD4.out.c0, HD4.out.c1, HD4.out.c2⟩
  refine ⟨_, rfl, hK _ _ (fun _ => hS4.out) ?_⟩
  clear hK K hS
  have hS := hS4
  have HX4 := Hd.mk (k34.keeps HX3.out id)
  have HK4 := Hd.mk (HK3.out.trans k34)
  have HM4 : Hd (IMap (w3.alloc (.map (t.map ent).toArray clk)) w3.heap.size L) := ⟨⟨t, clk, _root_.Go.heap_alloc_new w3 _, hmr⟩⟩
  have HO14 : Hd ((w3.alloc (.map (t.map ent).toArray clk)).ownsRow 0 68 256 (.slice A1 M.st.length c1) M.st.length (scells M.st)) := ⟨by
    have := ownsRow_keep HO1.out (w' := w3.alloc (.map (t.map ent).toArray clk)) (fun b _ hl => (k23.trans k34).block b hl id)
    rw [Htk.out] at this
    exact this⟩
  have HO24 : Hd ((w3.alloc (.map (t.map ent).toArray clk)).ownsRow 0 70 257 (.slice A2 M.ws.length c2) M.ws.length (wcells M.ws)) := ⟨ownsRow_keep HO2.out (fun b _ hl => k34.block b hl id)⟩
  have Hmlt : Hd (w.heap.size + 1 ≤ w3.heap.size ∧ w3.heap.size < (w3.alloc (.map (t.map ent).toArray clk)).heap.size) := ⟨by rw [← Hsz.out]; omega, by simp⟩
  generalize hw4 : w3.alloc (.map (t.map ent).toArray clk) = w4 at *
  simp only [Act.put, List.setIfInBounds_toArray, List.set_cons_zero, List.set_cons_succ]
  refine rn_take (i := 15) (dst := some 24) (v := .pointer (some ⟨w.heap.size, 0, none⟩)) rfl (by kernel_rfl) (fun _ _ _ h => h) rfl rfl (fun W hW => ex_field W 61 0 _ rfl w.heap.size 0 0 0 Try.underlying61 rfl info57 rfl rfl) hS.out ?_; simp only [Act.put, List.setIfInBounds_toArray, List.set_cons_zero, List.set_cons_succ]
  refine rn_one (i := 16) (dst := none) rfl (by kernel_rfl) rfl rfl (fun K hK => ?_)
  refine ow_store 57 _ _ (.slice A1 M.st.length c1) _ rfl ⟨w.heap.size, 0, none⟩ info57 rfl rfl rfl rfl ((Blk.cell HX4.out 0).trans rfl) (Blk.free HX4.out 0) ?_
  have k45 : Kp (· = w.heap.size) w4 (w4.setCell ⟨w.heap.size, 0, none⟩ (.slice A1 M.st.length c1)) := (Kp.refl _ _).setCell _ _ (.inr rfl)
  have HD5 := Hd.mk (HD4.out.keep k45 (fun b hb e => by have := Hp.out.lt b hb; omega))
  have hS5 : Hd ((fun W : World => W.cell? ⟨d, 0, none⟩ = some (.slice (some ⟨S, 0, none⟩) M.st.length cS) ∧ W.cell? ⟨d, 1, none⟩ = some (.slice A M.ws.length cw) ∧ W.cell? ⟨d, 2, none⟩ = some (.map (some m))) (w4.setCell ⟨w.heap.size, 0, none⟩ (.slice A1 M.st.length c1))) := ⟨HD5.out.c0, HD5.out.c1, HD5.out.c2⟩
  refine hK _ _ (fun _ => hS5.out) ?_
  clear hK K hS
  have hS := hS5
  have HX5 := Hd.mk (Blk.set HX4.out 0 (.slice A1 M.st.length c1))
  generalize hw5 : w4.setCell ⟨w.heap.size, 0, none⟩ (.slice A1 M.st.length c1) = w5 at *
  simp only [Act.put, List.setIfInBounds_toArray, List.set_cons_zero, List.set_cons_succ]
  refine rn_take (i := 17) (dst := some 25) (v := .pointer (some ⟨w.heap.size, 1, none⟩)) rfl (by kernel_rfl) (fun _ _ _ h => h) rfl rfl (fun W hW => ex_field W 61 1 _ rfl w.heap.size 0 0 1 Try.underlying61 rfl info58s1 rfl rfl) hS.out ?_; simp only [Act.put, List.setIfInBounds_toArray, List.set_cons_zero, List.set_cons_succ]
  refine rn_one (i := 18) (dst := none) rfl (by kernel_rfl) rfl rfl (fun K hK => ?_)
  refine ow_store 58 _ _ (.slice A2 M.ws.length c2) _ rfl ⟨w.heap.size, 1, none⟩ info58s1 rfl rfl rfl rfl ((Blk.cell HX5.out 1).trans rfl) (Blk.free HX5.out 1) ?_
  have k56 : Kp (· = w.heap.size) w5 (w5.setCell ⟨w.heap.size, 1, none⟩ (.slice A2 M.ws.length c2)) := (Kp.refl _ _).setCell _ _ (.inr rfl)
  have HD6 := Hd.mk (HD5.out.keep k56 (fun b hb e => by have := Hp.out.lt b hb; omega))
  have hS6 : Hd ((fun W : World => W.cell? ⟨d, 0, none⟩ = some (.slice (some ⟨S, 0, none⟩) M.st.length cS) ∧ W.cell? ⟨d, 1, none⟩ = some (.slice A M.ws.length cw) ∧ W.cell? ⟨d, 2, none⟩ = some (.map (some m))) (w5.setCell ⟨w.heap.size, 1, none⟩ (.slice A2 M.ws.length c2))) := ⟨HD6.out.c0, HD6.out.c1, HD6.out.c2⟩
  refine hK _ _ (fun _ => hS6.out) ?_
  clear hK K hS
  have hS := hS6
  have HX6 := Hd.mk (Blk.set HX5.out 1 (.slice A2 M.ws.length c2))
  generalize hw6 : w5.setCell ⟨w.heap.size, 1, none⟩ (.slice A2 M.ws.length c2) = w6 at *
  simp only [Act.put, List.setIfInBounds_toArray, List.set_cons_zero, List.set_cons_succ]
  refine rn_take (i := 19) (dst := some 26) (v := .pointer (some ⟨w.heap.size, 2, none⟩)) rfl (by kernel_rfl) (fun _ _ _ h => h) rfl rfl (fun W hW => ex_field W 61 2 _ rfl w.heap.size 0 0 2 Try.underlying61 rfl info59s1 rfl rfl) hS.out ?_; simp only [Act.put, List.setIfInBounds_toArray, List.set_cons_zero, List.set_cons_succ]
  refine rn_one (i := 20) (dst := none) rfl (by kernel_rfl) rfl rfl (fun K hK => ?_)
  refine ow_store 59 _ _ (.map (some w3.heap.size)) _ rfl ⟨w.heap.size, 2, none⟩ info59s1 rfl rfl rfl rfl ((Blk.cell HX6.out 2).trans rfl) (Blk.free HX6.out 2) ?_
  have k67 : Kp (· = w.heap.size) w6 (w6.setCell ⟨w.heap.size, 2, none⟩ (.map (some w3.heap.size))) := (Kp.refl _ _).setCell _ _ (.inr rfl)
  have HD7 := Hd.mk (HD6.out.keep k67 (fun b hb e => by have := Hp.out.lt b hb; omega))
  have hS7 : Hd ((fun W : World => W.cell? ⟨d, 0, none⟩ = some (.slice (some ⟨S, 0, none⟩) M.st.length cS) ∧ W.cell? ⟨d, 1, none⟩ = some (.slice A M.ws.length cw) ∧ W.cell? ⟨d, 2, none⟩ = some (.map (some m))) (w6.setCell ⟨w.heap.size, 2, none⟩ (.map (some w3.heap.size)))) := ⟨HD7.out.c0, HD7.out.c1, HD7.out.c2⟩
  refine hK _ _ (fun _ => hS7.out) ?_
  clear hK K hS
  have hS := hS7
  have HX7 := Hd.mk (Blk.set HX6.out 2 (.map (some w3.heap.size)))
  generalize hw7 : w6.setCell ⟨w.heap.size, 2, none⟩ (.map (some w3.heap.size)) = w7 at *
  simp only [Act.put, List.setIfInBounds_toArray, List.set_cons_zero, List.set_cons_succ]
  refine rn_done (by kernel_rfl) ?_ _
  have k47 := Hd.mk ((k45.trans k56).trans k67)
  clear hS hS2 hS3 hS4 hS5 hS6 hS7 k45 k56 k67 k12 k23 k34 hw4 hw5 hw6 hw7 HD1 HD2 HD3 HD4 HD5 HD6 HD7 hs2 hs3 ho1 hf1 hk1 ho2 hf2 hmb hmr
  go_wp2_with fail
  go_ret
  have hx7 : w.heap.size < w7.heap.size := blk_lt HX7.out
  have n3 : w3.heap.size ≠ w.heap.size := by have := Hmlt.out.1; omega
  have hOld : Old w w7 := HK4.out.andThen k47.out (fun i hi e => by omega)
  have hn1 : ∀ b, (Value.slice A1 M.st.length c1).ownBlock = some b → w.heap.size < b := fun b hb => by
    have h1 := HF1.out b hb
    have h2 := Hxs.out
    have h3 : w1.drew.heap.size = w1.heap.size := rfl
    omega
  have hn2 : ∀ b, (Value.slice A2 M.ws.length c2).ownBlock = some b → w.heap.size < b := fun b hb => by
    have h1 := HF2.out b hb
    have h2 := blk_lt HX2.out
    omega
  have ho1 := ownsRow_keep HO14.out (w' := w7) (fun b hb hl => k47.out.block b hl (fun e => by have := hn1 b hb; omega))
  have ho2 := ownsRow_keep HO24.out (w' := w7) (fun b hb hl => k47.out.block b hl (fun e => by have := hn2 b hb; omega))
  have hm := HM4.out.keep (k47.out.block _ HM4.out.lt (fun e => n3 e))
  obtain ⟨-, hr⟩ := ho1
  rcases hr with ⟨e, h0⟩ | ⟨g, cap, cur, e, -, hh, hc, -, hcs, ht⟩
  · have := Hpos.out; injection e with e1 e2 e3; omega
  injection e with e1 e2 e3
  subst e1 e3
  have hcur : cur.toList = scells M.st ++ cur.toList.drop (M.st.length * 256) := by rw [← ht]; exact (List.take_append_drop _ _).symm
  refine ⟨w.heap.size, rfl, ⟨fun k => w.heap.size ≤ k ∧ k < w7.heap.size, ⟨Hok.out, g, c1, w3.heap.size, .slice A2 M.ws.length c2, cur.toList.drop (M.st.length * 256), L, ?_⟩, fun k hk => hk.1⟩, hOld⟩
  exact
    { blk := HX7.out
      stb := by
        rw [← hcur]
        unfold Blk
        rw [Array.toArray_toList]
        exact hh
      cap := hc
      map := hm
      shows := Hp.out.shows
      waits := ho2
      fd := ⟨Nat.le_refl _, hx7⟩
      fS := ⟨by have := hn1 g rfl; omega, blk_lt hh⟩
      fm := ⟨by have := Hmlt.out.1; omega, hm.lt⟩
      fw := fun b hb => ⟨by have := hn2 b hb; omega, by obtain ⟨_, hb2⟩ := ownsRow_typed ho2 hb; exact blk_lt hb2⟩
      lt := fun k hk => hk.2 }
end Go.Proofs.Ytkcechpaeilaeaa
