/- The walk of DiskDoes. -/
import Derived.Test.YtkcechpaeilaeaaR12
import Derived.Test.YtkcechpaeilaeaaD12
import Derived.Test.YtkcechpaeilaeaaL6
namespace Go.Proofs.Ytkcechpaeilaeaa
open Go.RowKit
set_option linter.unusedVariables false
set_option linter.unusedSimpArgs false
section
variable {w0 w w' : World} {d r : Nat} {M N : DM} {X Y : Nat → Prop}
theorem does_any (h : Tw w0 w d r M M X) (x : OpM) {Ab Ap : Option Addr} {cb cp : Nat} (hb : Bs w0 (.slice Ab x.b.length cb) x.b) (hp : Bs w0 (.slice Ap x.pick.length cp) x.pick) (hby : Bytes x.pick) (hn : x.n ≤ 9223372036854775807) (hops : M.ops < 1073741824) (hfew : M.ws.length < 1073741824) :
    Calls Try.prog 22 #[.pointer (some ⟨d, 0, none⟩), .pointer (some ⟨r, 0, none⟩), .agg #[.int .i64 x.act, .int .i64 x.p, .int .i64 x.n, .slice Ab x.b.length cb, .slice Ap x.pick.length cp]] w fun e w' => e = .returned (.bool true) ∧ Step w0 w w' d r M X := by
  obtain ⟨xa, xp, xn, xb, xpick⟩ := x
  dsimp only at *
  by_cases h0 : xa < 0 ∨ 6 < xa
  · exact does_other h _ _ h0
  · by_cases e0 : xa = 0
    · subst e0; exact does_write h _ hb hops hfew
    by_cases e1 : xa = 1
    · subst e1; exact does_raw h _ hb hops hfew
    by_cases e2 : xa = 2
    · subst e2; exact does_sync h _ _ hops
    by_cases e3 : xa = 3
    · subst e3; exact does_arm h _ _ hn
    by_cases e4 : xa = 4
    · subst e4; exact does_calm h _ _
    by_cases e5 : xa = 5
    · subst e5; exact does_crash h _ hp hby
    · obtain rfl : xa = 6 := by omega
      exact does_load h _ _
/-- X was written, and is another set then. -/
theorem Tw.turned (h : Tw w0 w d r M N X) (k : Kp X w w') (hY : ∀ b, Y b → X b ∨ (w.heap.size ≤ b ∧ b < w'.heap.size)) : Tw w0 w' d r M N Y := by
  obtain ⟨F, G, h1, h2, h3, h4, h5, h6⟩ := h
  have hs := h6.size
  refine ⟨F, G, h1.keep k (fun b hb => (h3 b hb).2), h2.keep k (fun b hb => (h4 b hb).2.2), fun b hb => ⟨(h3 b hb).1, fun hy => ?_⟩, fun b hb => ⟨(h4 b hb).1, (h4 b hb).2.1, fun hy => ?_⟩, fun b hb => ?_, h6.andThen k (fun i hi hx => by have := (h5 i hx).1; omega)⟩
  · rcases hY b hy with h | h
    · exact (h3 b hb).2 h
    · have := h1.lt b hb; omega
  · rcases hY b hy with h | h
    · exact (h4 b hb).2.2 h
    · have := h2.lt b hb; omega
  · rcases hY b hb with h | h
    · exact ⟨(h5 b h).1, Nat.lt_of_lt_of_le (h5 b h).2 k.size⟩
    · exact ⟨by omega, h.2⟩
/-- Two devices' beginning. -/
theorem Tw.begin {w1 : World} {F G : Nat → Prop} (h : DiskAt w1 d M F) (hF : ∀ k, F k → w0.heap.size ≤ k) (k0 : Old w0 w1) (h2 : RefAt w r N G) (hG : ∀ k, G k → w1.heap.size ≤ k) (k1 : Old w1 w) : Tw w0 w d r M N Non :=
  ⟨F, G, h.keep k1 (fun _ _ => id), h2, fun k hk => ⟨hF k hk, id⟩, fun k hk => ⟨by have := hG k hk; have := k0.size; omega, fun hf => by have := h.lt k hf; have := hG k hk; omega, id⟩, fun k hk => hk.elim, k0.trans k1⟩
/-- The clone beside the reference's device; the other one is laid aside. -/
theorem tw_clone {A : Nat} (h : Tw w0 w d r M M (· = A)) : Calls Try.prog 20 #[.pointer (some ⟨d, 0, none⟩)] w fun e w' =>
    ∃ x F, e = .returned (.pointer (some ⟨x, 0, none⟩)) ∧ DiskAt w' d M F ∧ Tw w0 w' x r M M (fun k => k = A ∨ F k) ∧ Old w w' := by
  obtain ⟨F, G, h1, h2, h3, h4, h5, h6⟩ := h
  refine (clone_at h1).mono ?_
  rintro e w' ⟨x, rfl, ⟨F', h7, h8⟩, h9⟩
  have hs := h6.size
  refine ⟨x, F, rfl, h1.keep h9 (fun _ _ => id), ⟨F', G, h7, h2.keep h9 (fun _ _ => id), fun k hk => ⟨by have := h8 k hk; omega, fun hx => ?_⟩, fun k hk => ⟨(h4 k hk).1, fun hf => by have := h2.lt k hk; have := h8 k hf; omega, fun hx => ?_⟩, fun k hk => ?_, h6.trans h9⟩, h9⟩
  · have := h8 k hk
    rcases hx with hx | hx
    · have := (h5 k hx).2; omega
    · have := h1.lt k hx; omega
  · rcases hx with hx | hx
    · exact (h4 k hk).2.2 hx
    · exact (h4 k hk).2.1 hx
  · rcases hk with hk | hk
    · exact ⟨(h5 k hk).1, Nat.lt_of_lt_of_le (h5 k hk).2 h9.size⟩
    · exact ⟨(h3 k hk).1, Nat.lt_of_lt_of_le (h1.lt k hk) h9.size⟩
/-- A write to a device, whatever it answers. -/
theorem write_any {F : Nat → Prop} (h : DiskAt w d M F) (p : Nat) {b : Nat} {t : TypeId} {l : List Int} (hb : Blk w b (u8s l) t) (hl : l.length = 256) (hF : ¬ F b) (hops : M.ops < 1073741824) (hfew : M.ws.length < 1073741824) :
    Calls Try.prog 12 #[.pointer (some ⟨d, 0, none⟩), .int .i64 p, .slice (some ⟨b, 0, none⟩) 256 256] w fun e w' => ∃ n M' F', e = .returned (.int .i64 n) ∧ DiskAt w' d M' F' ∧ (∀ k, F' k → F k ∨ w.heap.size ≤ k) ∧ Kp F w w' := by
  by_cases hz : atE M p 256 = 0
  · have hr : w.rangeAt b 0 (u8s l) := fun j v hv => by rw [Nat.zero_add, Blk.cell hb]; exact hv
    refine (write_yes h p b 0 256 l hl hr hF hz hops hfew).mono ?_
    rintro e w' ⟨rfl, ⟨F', h1, h2⟩, h3⟩
    exact ⟨_, _, F', rfl, h1, h2, h3⟩
  · refine (write_no h p (some ⟨b, 0, none⟩) 256 256 (by simpa using hz)).mono ?_
    rintro e w' ⟨rfl, rfl⟩
    exact ⟨_, _, F, rfl, h, fun k => .inl, Kp.refl _ _⟩
end
theorem hbb_split {w : World} {v : Value} {l : List Int} (h : Bs w v l) : ∃ A c, v = .slice A l.length c ∧ l.length ≤ c ∧ True := by
  obtain ⟨A, c, e, hc, _⟩ := h
  exact ⟨A, c, e, hc, trivial⟩
theorem page_new2 (w : World) : Calls Try.prog 11 #[.slice (some ⟨w.heap.size, 0, none⟩) 2 2] (w.alloc (.cells #[.int .u8 77, .int .u8 77] 5)) fun e w' =>
    e = .returned (.slice (some ⟨w.heap.size + 1, 0, none⟩) 256 256) ∧ Blk w' (w.heap.size + 1) (u8s (pageOf [77, 77])) 5 ∧ Kp (fun _ => False) w w' := page_new w [77, 77]
theorem Bs_fours (w : World) : Bs (w.alloc (.cells #[.int .u8 4, .int .u8 4, .int .u8 4] 5)) (.slice (some ⟨w.heap.size, 0, none⟩) 3 3) [4, 4, 4] := Bs_new w [4, 4, 4] 5
theorem Bytes_fours : Bytes [4, 4, 4] := by intro n hn; simp at hn; omega
theorem fewR_tuple'' (A : Option Addr) (c : Nat) (l : List OpM) : ∃ A' n' c', fewR A c l = .tuple #[.slice A' n' c', .bool (fewB l)] := by
  unfold fewR
  cases fewB l
  · exact ⟨_, _, _, rfl⟩
  · exact ⟨_, _, _, rfl⟩
set_option maxRecDepth 20000 in
set_option maxHeartbeats 4000000 in
theorem diskdoes_few {w : World} {A : Option Addr} {c : Nat} {l : List OpM} (h : Os w (.slice A l.length c) l) (n : Int) (hf : fewB l = false) : Calls Try.prog 6 #[.int .i64 n, .slice A l.length c] w fun e w' => e = .returned (.bool true) ∧ Old w w' := by
  have f1 := few_at h
  rw [← fewR_no A c l hf] at f1
  have f1 := Hd.mk f1
  clear h hf
  go_enter Try.func6, Try.ntmps6
  go_wp2_with (first
    | (go_at_call 8; (with_reducible refine f1.out.mono ?_); rintro e w1 ⟨rfl, hk1⟩; have K1 := Hd.mk hk1; clear hk1)
    | (go_at_call 10; (with_reducible refine (live_at w1).mono ?_); rintro e w2 ⟨rfl, hk2⟩; have K2 := Hd.mk (K1.out.trans hk2); clear hk2)
    | (go_at_call 10; (with_reducible refine (live_at w2).mono ?_); rintro e w3 ⟨rfl, hk3⟩; have K3 := Hd.mk (K2.out.trans hk3); clear hk3))
  go_ret
  exact ⟨rfl, K3.out⟩
set_option maxRecDepth 20000 in
set_option maxHeartbeats 4000000 in
theorem diskdoes_range {w : World} {A : Option Addr} {c : Nat} {l : List OpM} (h : Os w (.slice A l.length c) l) (n : Int) (hf : fewB l = true) (hn : n < 8 ∨ 2048 < n) : Calls Try.prog 6 #[.int .i64 n, .slice A l.length c] w fun e w' => e = .returned (.bool true) ∧ Old w w' := by
  have f1 := few_at h
  rw [← fewR_yes A c l hf _ rfl] at f1
  have f1 := Hd.mk f1
  have Hn := Hd.mk hn
  clear h hf hn
  go_enter Try.func6, Try.ntmps6
  go_wp2_with (first
    | (go_at_call 8; (with_reducible refine f1.out.mono ?_); rintro e w1 ⟨rfl, hk1⟩; have K1 := Hd.mk hk1; clear hk1)
    | (go_at_call 10; (with_reducible refine (live_at w1).mono ?_); rintro e w2 ⟨rfl, hk2⟩; have K2 := Hd.mk (K1.out.trans hk2); clear hk2)
    | (go_at_call 9; (with_reducible refine (new_no _ n Hn.out).mono ?_); rintro e w' ⟨rfl, rfl⟩)
    | (go_at_call 21; (with_reducible refine (rnew_no _ n Hn.out).mono ?_); rintro e w' ⟨rfl, rfl⟩))
  go_ret
  exact ⟨rfl, K2.out⟩
set_option maxRecDepth 20000 in
set_option maxHeartbeats 4000000 in
theorem diskdoes_large {w : World} {A : Option Addr} {c : Nat} {l : List OpM} (h : Os w (.slice A l.length c) l) (n : Nat) (hf : fewB l = true) (h0 : 100 < n) (h1 : n ≤ 2048) : Calls Try.prog 6 #[.int .i64 n, .slice A l.length c] w fun e w' => e = .returned (.bool true) ∧ Old w w' := by
  have f1 := few_at h
  rw [← fewR_yes A c l hf _ rfl] at f1
  have f1 := Hd.mk f1
  have Hn := Hd.mk (And.intro h0 h1)
  have hnI : 100 < (n : Int) := by omega
  clear h hf h0 h1
  go_enter Try.func6, Try.ntmps6
  go_wp2_with (first
    | (go_at_call 8; (with_reducible refine f1.out.mono ?_); rintro e w1 ⟨rfl, hk1⟩; have K1 := Hd.mk hk1; clear hk1)
    | (go_at_call 10; (with_reducible refine (live_at w1).mono ?_); rintro e w2 ⟨rfl, hk2⟩; have K2 := Hd.mk (K1.out.trans hk2); clear hk2)
    | (go_at_call 9; (with_reducible refine (new_yes w2 n (by have := Hn.out.1; omega) Hn.out.2).mono ?_); rintro e w3 ⟨d, rfl, -, hk3⟩; have K3 := Hd.mk (K2.out.trans hk3); clear hk3)
    | (go_at_call 21; (with_reducible refine (rnew_yes w3 n (by have := Hn.out.1; omega) Hn.out.2).mono ?_); rintro e w4 ⟨r, G, rfl, -, -, hk4⟩; have K4 := Hd.mk (K3.out.trans hk4); clear hk4))
  go_ret
  exact ⟨rfl, K4.out⟩
set_option maxRecDepth 20000 in
set_option maxHeartbeats 8000000 in
theorem diskdoes_yes {w : World} {A : Option Addr} {c : Nat} {l : List OpM} (h : Os w (.slice A l.length c) l) (hl : ∀ x ∈ l, x.n ≤ 9223372036854775807) (n : Nat) (hf : fewB l = true) (h0 : 8 ≤ n) (h1 : n ≤ 100) : Calls Try.prog 6 #[.int .i64 n, .slice A l.length c] w fun e w' => e = .returned (.bool true) ∧ Old w w' := by
  have f1 := few_at h
  rw [← fewR_yes A c l hf _ rfl] at f1
  have f1 := Hd.mk f1
  have Hn := Hd.mk (And.intro h0 h1)
  have hnI : (n : Int) ≤ 100 := by omega
  have hnI8 : 8 ≤ (n : Int) := by omega
  have O1 := Hd.mk (h.take (n := 0) 50)
  have HX : Hd (∀ x ∈ l.take 50, x.n ≤ 9223372036854775807) := ⟨fun x hx => hl x (List.mem_of_mem_take hx)⟩
  have N1 : Hd ((l.take 50).length ≤ 50) := ⟨by rw [List.length_take]; omega⟩
  have hmI : ((l.take 50).length : Int) ≤ 50 := by rw [List.length_take]; omega
  clear h hf h0 h1 hl
  generalize l.take 50 = m at *
  go_enter Try.func6, Try.ntmps6
  go_wp2_with (first
    | (go_at_call 8; (with_reducible refine f1.out.mono ?_); rintro e w1 ⟨rfl, hk1⟩; have K1 := Hd.mk hk1; clear hk1)
    | (go_at_call 10; (with_reducible refine (live_at w1).mono ?_); rintro e w2 ⟨rfl, hk2⟩; have K2 := Hd.mk (K1.out.trans hk2); clear hk2)
    | (go_at_call 9; (with_reducible refine (new_yes w2 n Hn.out.1 (by have := Hn.out.2; omega)).mono ?_); rintro e w3 ⟨d, rfl, hD3, hk3⟩; have D3 := Hd.mk hD3; have K3 := Hd.mk hk3; clear hk3 hD3)
    | (go_at_call 21; (with_reducible refine (rnew_yes w3 n Hn.out.1 (by have := Hn.out.2; omega)).mono ?_); rintro e w4 ⟨r, G, rfl, hR4, hG4, hk4⟩; have T4 := Hd.mk (Tw.begin (w0 := w2) D3.out (fun k hk => hk.1) K3.out hR4 hG4 hk4); clear hR4 hG4 hk4))
  go_loopw [7, 54] (fun v7 v54 wr => ∃ (k d : Nat) (M : DM), v7 = .pointer (some ⟨d, 0, none⟩) ∧ v54 = .int .i64 k ∧ k ≤ m.length ∧ Hd (Tw w2 wr d r M M Non) ∧ Hd (M.ops ≤ k ∧ M.ws.length ≤ k)) (fun _ v54 _ => m.length - (intOf v54).toNat)
  case atStart => exact ⟨0, d, newM n, rfl, rfl, Nat.zero_le _, T4, ⟨Int.le_refl _, Nat.le_refl _⟩⟩
  case round =>
    obtain ⟨k, d, M, rfl, rfl, hk, HT, HB⟩ := hrel
    by_cases hlt : k < m.length
    · have hltI : (k : Int) < (m.length : Int) := by omega
      have Hlt := Hd.mk hlt
      obtain ⟨A', c', e, -, hr⟩ := O1.out
      injection e with e1 e2 e3
      subst e1 e3
      clear e2
      rcases hr with h0 | ⟨b, o, rfl, hr⟩
      · rw [h0] at hlt; simp at hlt
      obtain ⟨vb, vp, hrg0, hbb, hbp, -, hyp⟩ := hr k _ (List.getElem?_eq_getElem hlt)
      have hrg := rangeAt_keep hrg0 ((K2.out.trans HT.out.since).block b (rangeAt_lt hrg0 (by simp)) id)
      have hnx := HX.out _ (List.getElem_mem hlt)
      clear hrg0
      generalize m[k] = x at *
      obtain ⟨Ab, cb, rfl, hcb, -⟩ := hbb_split hbb
      obtain ⟨Ap, cp, rfl, hcp, -⟩ := hbb_split hbp
      have hb2 := hbb.keep (w' := w2) (fun b hb _ => K2.out.block b hb id)
      have hp2 := hbp.keep (w' := w2) (fun b hb _ => K2.out.block b hb id)
      have HTa := Hd.mk (HT.out.fence (Y := fun k => k = wr.heap.size) (w' := wr.alloc (.cells [Value.int .i64 x.act, .int .i64 x.p, .int .i64 x.n, .slice Ab x.b.length cb, .slice Ap x.pick.length cp].toArray 34)) ((Kp.refl _ wr).alloc _) (fun b hb => .inr (by subst hb; simp)))
      have HBa := Hd.mk (Blk.new wr [Value.int .i64 x.act, .int .i64 x.p, .int .i64 x.n, .slice Ab x.b.length cb, .slice Ap x.pick.length cp] 34)
      have HRa : Hd ((wr.alloc (.cells [Value.int .i64 x.act, .int .i64 x.p, .int .i64 x.n, .slice Ab x.b.length cb, .slice Ap x.pick.length cp].toArray 34)).rangeAt wr.heap.size 0 [Value.int .i64 x.act, .int .i64 x.p, .int .i64 x.n, .slice Ab x.b.length cb, .slice Ap x.pick.length cp]) := ⟨fun j v hv => by rw [Nat.zero_add, Blk.cell HBa.out]; exact hv⟩
      have Hdo := Hd.mk (does_any HTa.out x hb2 hp2 hyp hnx (by have := HB.out.1; omega) (by have := HB.out.2; omega))
      have Hrg := Hd.mk hrg
      have hone : Hd (∀ v ∈ [Value.int .i64 x.act, .int .i64 x.p, .int .i64 x.n, .slice Ab x.b.length cb, .slice Ap x.pick.length cp], v.oneCell' = true) := ⟨by intro v hv; simp at hv; rcases hv with rfl | rfl | rfl | rfl | rfl <;> rfl⟩
      have hi34 : Hd ((Try.prog.info? 34).map (·.size) = some ([Value.int .i64 x.act, .int .i64 x.p, .int .i64 x.n, .slice Ab x.b.length cb, .slice Ap x.pick.length cp] : List Value).length) := ⟨info34⟩
      have hz34 : Hd (Z5.length = ([Value.int .i64 x.act, .int .i64 x.p, .int .i64 x.n, .slice Ab x.b.length cb, .slice Ap x.pick.length cp] : List Value).length) := ⟨rfl⟩
      clear hlt hk hr hrg hbb hbp hb2 hp2 hyp hnx hcb hcp
      by_cases ha : x.act = 7
      · have haB : (x.act != 7) = false := by simp [ha]
        clear ha
        go_wp2_with (first
        | (with_reducible refine wl_load_mid rfl 34 _ rfl b (o + k * 5) rfl _ Hrg.out Try.underlying34 rfl hi34.out ?_)
        | (with_reducible refine wl_alloc rfl 34 rfl Z5 (zero34 _) ?_)
        | (with_reducible refine wl_store_new rfl 34 _ _ rfl Z5 [Value.int .i64 x.act, .int .i64 x.p, .int .i64 x.n, .slice Ab x.b.length cb, .slice Ap x.pick.length cp] rfl rfl hi34.out hz34.out hone.out ?_)
        | (with_reducible refine wl_load_mid rfl 34 _ rfl wr.heap.size 0 rfl _ HRa.out Try.underlying34 rfl hi34.out ?_)
        | (go_at_call 22
           (with_reducible refine Hdo.out.mono ?_)
           rintro e w6 ⟨rfl, ⟨M', h6, ho6, hw6⟩, hk6⟩
           have T6 := Hd.mk h6
           have B6 := Hd.mk (hk6.blk HBa.out rfl)
           have HM := Hd.mk (And.intro ho6 hw6)
           have hc1 : w6.cell? ⟨wr.heap.size, 1, none⟩ = some (.int .i64 x.p) := (Blk.cell B6.out 1).trans rfl
           clear h6 ho6 hw6 hk6)
        | (go_at_call 23
           (with_reducible refine (same_tw T6.out x.p).mono ?_)
           rintro e w7 ⟨rfl, hk7⟩
           have T7 := Hd.mk (T6.out.old hk7)
           have B7 := Hd.mk (hk7.keeps B6.out id)
           have hc0 : w7.cell? ⟨wr.heap.size, 0, none⟩ = some (.int .i64 x.act) := (Blk.cell B7.out 0).trans rfl
           clear hk7 hc1)
        | (go_at_call 20
           (with_reducible refine (tw_clone T7.out).mono ?_)
           rintro e w8 ⟨y, F, rfl, hD8, hT8, hk8⟩
           have T8 := Hd.mk hT8
           have D8 := Hd.mk hD8
           have B8 := Hd.mk (hk8.keeps B7.out id)
           have hc1 : w8.cell? ⟨wr.heap.size, 1, none⟩ = some (.int .i64 x.p) := (Blk.cell B8.out 1).trans rfl
           clear hT8 hD8 hk8 hc0)
        | (go_at_call 23
           (with_reducible refine (same_tw T8.out x.p).mono ?_)
           rintro e w9 ⟨rfl, hk9⟩
           have T9 := Hd.mk (T8.out.old hk9)
           have D9 := Hd.mk (D8.out.keep hk9 (fun _ _ => id))
           clear hk9 hc1)
        | (go_at_call 11
           (with_reducible refine (page_new2 w9).mono ?_)
           rintro e w10 ⟨rfl, hb10, hk10⟩
           have T10 := Hd.mk (T9.out.old hk10)
           have D10 := Hd.mk (D9.out.keep hk10 (fun _ _ => id))
           have B10 := Hd.mk hb10
           have L10 : Hd (¬ F (w9.heap.size + 1)) := ⟨fun hf => by have := D9.out.lt _ hf; omega⟩
           clear hb10 hk10)
        | (go_at_call 12
           have hcw : Calls Try.prog 12 #[.pointer (some ⟨d, 0, none⟩), .int .i64 1, .slice (some ⟨w9.heap.size + 1, 0, none⟩) 256 256] w10 _ := write_any D10.out 1 B10.out (pageOf_length _) L10.out (by have := HM.out.1; have := HB.out.1; omega) (by have := HM.out.2; have := HB.out.2; omega)
           (with_reducible refine hcw.mono ?_)
           rintro e w11 ⟨q, M2, F2, rfl, hD11, hF11, hk11⟩
           have T11 := Hd.mk (T10.out.turned (Y := fun k => k = wr.heap.size ∨ F2 k) (hk11.mono (fun k _ h => .inr h)) (fun b hb => by
             rcases hb with hb | hb
             · exact .inl (.inl hb)
             · rcases hF11 b hb with h | h
               · exact .inl (.inr h)
               · exact .inr ⟨h, hD11.lt b hb⟩))
           have D11 := Hd.mk hD11
           clear hD11 hF11 hk11 hcw)
        | (go_at_call 13
           (with_reducible refine (crash_at (w := w11.alloc (.cells #[.int .u8 4, .int .u8 4, .int .u8 4] 5)) (pick := [4, 4, 4]) (D11.out.keep ((Kp.refl (fun _ => False) w11).alloc _) (fun _ _ => id)) (Bs_fours w11) Bytes_fours (fun k hk hf => by have := D11.out.lt k hf; simp [Value.ownBlock] at hk; omega)).mono ?_)
           rintro e w12 ⟨rfl, hD12, hk12⟩
           have T12 := Hd.mk ((T11.out.old ((Kp.refl (fun _ => False) w11).alloc (.cells #[.int .u8 4, .int .u8 4, .int .u8 4] 5))).wrote (hk12.mono (fun k _ h => .inr h)))
           clear hD12 hk12))
        exact ⟨⟨k + 1, y, M', rfl, by go_num, Hlt.out, ⟨T12.out.sub (fun b hb => hb.elim)⟩, ⟨by have := HM.out.1; have := HB.out.1; omega, by have := HM.out.2; have := HB.out.2; omega⟩⟩, by have := Hlt.out; simp [intOf]; omega⟩
      · have haB : (x.act != 7) = true := by simpa using ha
        clear ha
        go_wp2_with (first
        | (with_reducible refine wl_load_mid rfl 34 _ rfl b (o + k * 5) rfl _ Hrg.out Try.underlying34 rfl hi34.out ?_)
        | (with_reducible refine wl_alloc rfl 34 rfl Z5 (zero34 _) ?_)
        | (with_reducible refine wl_store_new rfl 34 _ _ rfl Z5 [Value.int .i64 x.act, .int .i64 x.p, .int .i64 x.n, .slice Ab x.b.length cb, .slice Ap x.pick.length cp] rfl rfl hi34.out hz34.out hone.out ?_)
        | (with_reducible refine wl_load_mid rfl 34 _ rfl wr.heap.size 0 rfl _ HRa.out Try.underlying34 rfl hi34.out ?_)
        | (go_at_call 22
           (with_reducible refine Hdo.out.mono ?_)
           rintro e w6 ⟨rfl, ⟨M', h6, ho6, hw6⟩, hk6⟩
           have T6 := Hd.mk h6
           have B6 := Hd.mk (hk6.blk HBa.out rfl)
           have HM := Hd.mk (And.intro ho6 hw6)
           have hc1 : w6.cell? ⟨wr.heap.size, 1, none⟩ = some (.int .i64 x.p) := (Blk.cell B6.out 1).trans rfl
           clear h6 ho6 hw6 hk6)
        | (go_at_call 23
           (with_reducible refine (same_tw T6.out x.p).mono ?_)
           rintro e w7 ⟨rfl, hk7⟩
           have T7 := Hd.mk (T6.out.old hk7)
           have B7 := Hd.mk (hk7.keeps B6.out id)
           have hc0 : w7.cell? ⟨wr.heap.size, 0, none⟩ = some (.int .i64 x.act) := (Blk.cell B7.out 0).trans rfl
           clear hk7 hc1)
        | fail)
        exact ⟨⟨k + 1, d, M', rfl, by go_num, Hlt.out, ⟨T7.out.sub (fun b hb => hb.elim)⟩, ⟨by have := HM.out.1; have := HB.out.1; omega, by have := HM.out.2; have := HB.out.2; omega⟩⟩, by have := Hlt.out; simp [intOf]; omega⟩
    · have e : k = m.length := by omega
      subst e
      have Him := Hd.mk (tw_dsee HT.out (fun F hF => image_at hF))
      have hfl := Hd.mk (flat_len HT.out.ok)
      clear hlt hk
      go_wp2_with (first
        | (go_at_call 14
           (with_reducible refine Him.out.mono ?_)
           rintro e w5 ⟨v5, rfl, hb5, -, hk5⟩
           have B5 := Hd.mk hb5
           have T5 := Hd.mk (HT.out.old hk5)
           clear hb5 hk5)
        | (go_at_call 24
           (with_reducible refine (tw_rsee T5.out (fun G hG => rimage_at hG)).mono ?_)
           rintro e w6 ⟨v6, rfl, hv6, -, hk6⟩
           have V6 := Hd.mk hv6
           have B6 := Hd.mk (B5.out.keep (w' := w6) (fun b hb _ => hk6.block b hb id))
           have K6 := Hd.mk ((K2.out.trans T5.out.since).trans hk6)
           clear hv6 hk6)
        | (go_at_call 19
           have hs := same_at B6.out (ownsRow_Bs' rfl V6.out) (by have := hfl.out; omega)
           rw [decide_eq_true rfl] at hs
           (with_reducible refine hs.mono ?_)
           rintro e w7 ⟨rfl, hk7⟩
           have K7 := Hd.mk (K6.out.trans hk7)
           clear hs hk7))
      go_ret
      exact ⟨rfl, K7.out⟩
theorem diskdoes_at {w : World} {A : Option Addr} {c : Nat} {l : List OpM} (n : Int) (h : Os w (.slice A l.length c) l) (hl : ∀ x ∈ l, x.n ≤ 9223372036854775807) : Calls Try.prog 6 #[.int .i64 n, .slice A l.length c] w fun e w' => e = .returned (.bool true) ∧ Old w w' := by
  cases hf : fewB l with
  | false => exact diskdoes_few h n hf
  | true =>
    by_cases hr : n < 8 ∨ 2048 < n
    · exact diskdoes_range h n hf hr
    · obtain ⟨q, rfl⟩ : ∃ q : Nat, n = q := ⟨n.toNat, by omega⟩
      by_cases h1 : 100 < q
      · exact diskdoes_large h q hf h1 (by omega)
      · exact diskdoes_yes h hl q hf (by omega) (by omega)
end Go.Proofs.Ytkcechpaeilaeaa
