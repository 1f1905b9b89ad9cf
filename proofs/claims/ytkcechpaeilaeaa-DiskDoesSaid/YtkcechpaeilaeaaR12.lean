/- does: Load. -/
import Derived.Test.YtkcechpaeilaeaaR11
import Derived.WalkLawsBesides
namespace Go.Proofs.Ytkcechpaeilaeaa
open Go.RowKit
set_option linter.unusedVariables false
set_option linter.unusedSimpArgs false
section
variable {w0 w : World} {d r : Nat} {M : DM} {X : Nat → Prop} {xa xp xn : Int}
theorem flat_len {M : DM} (h : M.Ok) : M.st.flatten.length = M.st.length * 256 ∧ 0 < M.st.length ∧ M.st.length ≤ 2048 := by
  have h1 := imgUpto_length M.st h.st M.st.length (Nat.le_refl _)
  unfold imgUpto at h1
  rw [List.take_length] at h1
  exact ⟨h1, h.pos, h.most⟩
set_option maxRecDepth 20000 in
set_option maxHeartbeats 4000000 in
theorem does_load_neg (h : Tw w0 w d r M M X) (vb vp : Value) {p : Nat} (hp : p < M.st.flatten.length) (hn : xn < 0) :
    Calls Try.prog 22 #[.pointer (some ⟨d, 0, none⟩), .pointer (some ⟨r, 0, none⟩), .agg #[.int .i64 6, .int .i64 (p : Int), .int .i64 xn, vb, vp]] w fun e w' => e = .returned (.bool true) ∧ Step w0 w w' d r M X := by
    have H := Hd.mk (tw_box (xa := 6) (xp := (p : Int)) (xn := xn) h vb vp)
    have hB := Hd.mk (Blk.new w (CLS 6 (p : Int) xn vb vp) 34)
    have K0 := Hd.mk (h.keepOld ((Kp.refl (fun _ => False) w).alloc (.cells (CLS 6 (p : Int) xn vb vp).toArray 34)))
    have Hlx : Hd (∀ x, X x → x < w.heap.size) := ⟨fun x hx => h.ltX hx⟩
    have hsz : Hd ((w.alloc (.cells (CLS 6 (p : Int) xn vb vp).toArray 34)).heap.size = w.heap.size + 1) := ⟨by simp⟩
    have hfl := flat_len h.ok
    have hnI : (M.st.flatten.length : Int) ≤ 524288 := by omega
    have Hpos : Hd (0 < M.st.flatten.length) := ⟨by omega⟩
    clear h hfl
    have him := Hd.mk (tw_rsee H.out (fun G hG => rimage_at hG))
    generalize M.st.flatten = fl at *
    have hpI : (p : Int) < (fl.length : Int) := by omega
    have hpB : decide ((p : Int) < (fl.length : Int)) = true := by simp; omega
    have hp0 : 0 ≤ (p : Int) := by omega
    have hp0B : decide (0 ≤ (p : Int)) = true := by simp
    have HpN := Hd.mk hp
    clear hp
    go_enter Try.func22, Try.ntmps22
    go_wp2_with (first
      | (go_at_call 24
         (with_reducible refine him.out.mono ?_)
         rintro e w1 ⟨vi, rfl, hv1, hf1, hk1⟩
         have hg := hv1.2
         rcases hg with ⟨_, hg⟩ | ⟨g, c, cur, rfl, _, hh, hcc, _, _, _⟩
         · have := Hpos.out; omega
         have hcI : (fl.length : Int) ≤ (c : Int) := by omega
         have hgw := hf1 g rfl
         have hA1 := hk1.keeps hB.out id
         have hcell : w1.cell? ⟨g, p, none⟩ = some (.int .u8 (fl.getD p 0)) := by
           have := hv1.cells (g := g) rfl p (.int .u8 (fl.getD p 0)) (by rw [u8s_get, List.getD_eq_getElem?_getD, List.getElem?_eq_getElem HpN.out]; rfl)
           rw [Addr.add_mid, Nat.zero_add] at this
           exact this
         have hfr : w1.frozen? ⟨g, p, none⟩ = false := frozen_of_row w1 g p cur 5 hh
         have H1 := H.out.fence (Y := fun k => WX X w k ∨ k = g) hk1 (fun b hb => hb.imp id (fun e => by subst e; exact ⟨hgw, blk_lt hh⟩))
         have hc1 : w1.cell? ⟨w.heap.size, 1, none⟩ = some (.int .i64 ((p : Int))) := (Blk.cell hA1 1).trans rfl
         have hc2 : w1.cell? ⟨w.heap.size, 2, none⟩ = some (.int .i64 xn) := (Blk.cell hA1 2).trans rfl
         have hne : g ≠ w.heap.size := by have := hsz.out; omega
         have Hgw := Hd.mk hgw
         have KT : Hd (∀ wt, (wt = w1 ∨ ∃ y, wt = w1.setCell ⟨g, p, none⟩ (.int .u8 y)) → KeepX X w wt) := ⟨fun wt hwt => by
           have k1 := K0.out.trans ((H.out.keepOld hk1).sub (fun b hb => .inl hb))
           rcases hwt with rfl | ⟨y, rfl⟩
           · exact k1
           · exact k1.trans (fun x hx => heap_setCell_other _ _ _ _ (fun e => by have := Hlx.out x hx; have := hsz.out; simp only at e; omega))⟩
         have HT : Hd (∀ wt, (wt = w1 ∨ ∃ y, wt = w1.setCell ⟨g, p, none⟩ (.int .u8 y)) → Tw w0 wt d r M M (fun k => WX X w k ∨ k = g) ∧ g < wt.heap.size ∧ ∃ img, Bs wt (.slice (some ⟨g, 0, none⟩) (fl.length) c) img ∧ img.length ≤ fl.length ∧ img.length = fl.length) := ⟨fun wt hwt => by
           have hrow : ∃ l : List Int, l.length = fl.length ∧ wt.ownsRow 0 5 1 (.slice (some ⟨g, 0, none⟩) fl.length c) fl.length (u8s l) := by
             rcases hwt with rfl | ⟨y, rfl⟩
             · exact ⟨fl, rfl, hv1⟩
             · exact ⟨fl.set p y, by rw [List.length_set], by rw [← u8s_set]; exact (World.ownsRow.stored hv1 _ _).1⟩
           have htw : Tw w0 wt d r M M (fun k => WX X w k ∨ k = g) ∧ g < wt.heap.size := by
             rcases hwt with rfl | ⟨y, rfl⟩
             · exact ⟨H1, blk_lt hh⟩
             · exact ⟨H1.wrote ((Kp.refl _ w1).setCell _ _ (.inr (.inr rfl))), by rw [World.size_setCell]; exact blk_lt hh⟩
           obtain ⟨l, hl, hrow⟩ := hrow
           obtain ⟨A', c', e, hc', hr⟩ := ownsRow_Bs' hl.symm hrow
           injection e with e1 e2 e3
           subst e1 e3
           refine ⟨htw.1, htw.2, l.take (fl.length), ?_, by rw [List.length_take]; omega, by rw [List.length_take]; omega⟩
           have hlt : (l.take (fl.length)).length = fl.length := by rw [List.length_take]; omega
           refine ⟨_, c, by rw [hlt], by omega, ?_⟩
           rcases hr with hr | ⟨b, o, e, hr⟩
           · left; rw [hr]; simp
           · right
             refine ⟨b, o, e, fun j v hv => hr j v ?_⟩
             rw [u8s_get, List.getElem?_take] at hv
             split at hv
             · rw [u8s_get]; exact hv
             · cases hv⟩
         clear hv1 hf1 hk1 hh hgw hA1 H1)
      | (go_at_call 47
         obtain ⟨HT1, hgt, img, HB, himg, hlen⟩ := HT.out (w1.setCell ⟨g, p, none⟩ (.int .u8 (_root_.Go.bits .xor .u8 (fl[p]?.getD 0) 1))) (.inr ⟨_, rfl⟩)
         (with_reducible refine (join_at (Bs_nil _) HB (by simp; omega)).mono ?_)
         rintro e w2 ⟨v2, rfl, h21, h22, h23⟩
         rw [List.nil_append] at h21
         have K2 := Hd.mk ((KT.out (w1.setCell ⟨g, p, none⟩ (.int .u8 (_root_.Go.bits .xor .u8 (fl[p]?.getD 0) 1))) (.inr ⟨_, rfl⟩)).trans ((HT1.keepOld h23).sub (fun b hb => .inl (.inl hb))))
         have N3 : Hd (∀ k, v2.ownBlock = some k → ¬ X k) := ⟨fun k hk hx => by have := h22 k hk; have := Hlx.out k hx; have := hsz.out; have := Hgw.out; omega⟩
         have H2 := Hd.mk (HT1.fence (Y := fun k => (WX X w k ∨ k = g) ∨ v2.ownBlock = some k) h23 (fun b hb => hb.imp id (fun e => ⟨h22 b e, (h21.lt b e).2⟩)))
         have V2 := Hd.mk h21
         have I2 := Hd.mk (HB.keep (w' := w2) (fun b hb _ => h23.block b hb id))
         have N2 : Hd (∀ k, v2.ownBlock = some k → k ≠ g) := ⟨fun k hk e => by have := h22 k hk; omega⟩
         have himgI : (img.length : Int) ≤ 524288 := by omega
         have Hlen := Hd.mk hlen
         obtain ⟨A2, c2, rfl, -⟩ := ownsRow_len h21
         clear HT1 HB himg hlen h21 h22 h23 hgt)
      | (go_at_call 27
         (with_reducible refine (tw_dload H2.out (ownsRow_Bs' rfl V2.out) (fun k hk => .inr hk)).mono ?_)
         rintro e w3 ⟨rfl, h3, hk3⟩
         have H3 := Hd.mk h3
         have V3 := Hd.mk (ownsRow_keep V2.out (fun k hk hl => hk3 k (.inr hk)))
         have I3 := Hd.mk (I2.out.keep (w' := w3) (fun b hb hv => hk3 b (.inl (.inr (by simp [Value.ownBlock] at hv; omega)))))
         have K3 := Hd.mk (K2.out.trans (hk3.sub (fun b hb => .inl (.inl (.inl hb)))))
         clear h3 hk3))
    go_loopw [13, 137] (fun v13 v137 wr => ∃ (k : Nat) (l : List Int), v137 = .int .i64 k ∧ k ≤ img.length ∧ l.length = img.length ∧ Hd (wr.ownsRow 0 5 1 (.slice A2 img.length c2) img.length (u8s l)) ∧ Hd (Kp (fun b => (Value.slice A2 img.length c2).ownBlock = some b) w3 wr)) (fun _ v137 _ => img.length - (intOf v137).toNat)
    case atStart => exact ⟨0, img, rfl, Nat.zero_le _, rfl, V3, ⟨Kp.refl _ _⟩⟩
    case round =>
      obtain ⟨k, l, rfl, hk, hl, HV, HK⟩ := hrel
      by_cases hlt : k < img.length
      · have hltI : (k : Int) < (img.length : Int) := by omega
        have Hlt := Hd.mk hlt
        have Hl := Hd.mk hl
        have hv := HV.out.2
        rcases hv with ⟨_, hv⟩ | ⟨g2, c', cur, hA2, _, hh, hcc, _, _, _⟩
        · omega
        injection hA2 with hA2 e2 e3
        subst hA2 e3
        clear e2
        have hc : wr.cell? ⟨g2, k, none⟩ = some (.int .u8 (l[k]'(by omega))) := by
          have := HV.out.cells (g := g2) rfl k (.int .u8 (l[k]'(by omega))) (by rw [u8s_get, List.getElem?_eq_getElem (by omega)]; rfl)
          rw [Addr.add_mid, Nat.zero_add] at this
          exact this
        have hf : wr.frozen? ⟨g2, k, none⟩ = false := frozen_of_row wr g2 k cur 5 hh
        have hfin := fun y => Hd.mk (show (wr.setCell ⟨g2, k, none⟩ (.int .u8 y)).ownsRow 0 5 1 (.slice (some ⟨g2, 0, none⟩) img.length c2) img.length (u8s (l.set k y)) from by rw [← u8s_set]; exact (World.ownsRow.stored HV.out _ _).1)
        generalize l[k]'(by omega) = x at *
        clear hlt hk hl hh hcc
        go_wp2_with fail
        exact ⟨⟨k + 1, _, by go_num, Hlt.out, by rw [List.length_set]; exact Hl.out, hfin _, ⟨HK.out.setCell _ _ (.inr rfl)⟩⟩, by have := Hlt.out; simp [intOf]; omega⟩
      · have e : k = img.length := by omega
        subst e
        have H4 := Hd.mk (H3.out.wrote (HK.out.mono (fun k _ e => .inr e)))
        have K4 := Hd.mk (K3.out.trans ((H3.out.sub (fun b hb => .inl (.inl (.inl hb))) : Tw w0 w3 d r _ _ X).keepKp HK.out (fun x hx e => N3.out x e hx)))
        have I4 := Hd.mk (I3.out.keep (w' := wr) (fun b hb hv => HK.out.block b hb (fun e => N2.out b e (by simp [Value.ownBlock] at hv; omega))))
        clear hlt hk hl
        go_wp2_with (first
          | (go_at_call 48
             (with_reducible refine (tw_rload H4.out I4.out (fun k hk => .inl (.inr (by simp [Value.ownBlock] at hk; omega)))).mono ?_)
             rintro e w5 ⟨rfl, h5, k5⟩
             have H5 := Hd.mk h5
             have K5 := Hd.mk (K4.out.trans (k5.sub (fun b hb => .inl (.inl (.inl hb)))))
             clear h5 k5))
        go_ret
        exact ⟨ret_bool (by simp), ⟨_, H5.out.sub (fun b hb => .inl (.inl (.inl hb))), dl_grow M img⟩, K5.out⟩
set_option maxRecDepth 20000 in
set_option maxHeartbeats 4000000 in
theorem does_load_zero (h : Tw w0 w d r M M X) (vb vp : Value) {p : Nat} (hp : p < M.st.flatten.length) :
    Calls Try.prog 22 #[.pointer (some ⟨d, 0, none⟩), .pointer (some ⟨r, 0, none⟩), .agg #[.int .i64 6, .int .i64 (p : Int), .int .i64 0, vb, vp]] w fun e w' => e = .returned (.bool true) ∧ Step w0 w w' d r M X := by
    have H := Hd.mk (tw_box (xa := 6) (xp := (p : Int)) (xn := 0) h vb vp)
    have hB := Hd.mk (Blk.new w (CLS 6 (p : Int) 0 vb vp) 34)
    have K0 := Hd.mk (h.keepOld ((Kp.refl (fun _ => False) w).alloc (.cells (CLS 6 (p : Int) 0 vb vp).toArray 34)))
    have Hlx : Hd (∀ x, X x → x < w.heap.size) := ⟨fun x hx => h.ltX hx⟩
    have hsz : Hd ((w.alloc (.cells (CLS 6 (p : Int) 0 vb vp).toArray 34)).heap.size = w.heap.size + 1) := ⟨by simp⟩
    have hfl := flat_len h.ok
    have hnI : (M.st.flatten.length : Int) ≤ 524288 := by omega
    have Hpos : Hd (0 < M.st.flatten.length) := ⟨by omega⟩
    clear h hfl
    have him := Hd.mk (tw_rsee H.out (fun G hG => rimage_at hG))
    generalize M.st.flatten = fl at *
    have hpI : (p : Int) < (fl.length : Int) := by omega
    have hpB : decide ((p : Int) < (fl.length : Int)) = true := by simp; omega
    have hp0 : 0 ≤ (p : Int) := by omega
    have hp0B : decide (0 ≤ (p : Int)) = true := by simp
    have HpN := Hd.mk hp
    clear hp
    go_enter Try.func22, Try.ntmps22
    go_wp2_with (first
      | (go_at_call 24
         (with_reducible refine him.out.mono ?_)
         rintro e w1 ⟨vi, rfl, hv1, hf1, hk1⟩
         have hg := hv1.2
         rcases hg with ⟨_, hg⟩ | ⟨g, c, cur, rfl, _, hh, hcc, _, _, _⟩
         · have := Hpos.out; omega
         have hcI : (fl.length : Int) ≤ (c : Int) := by omega
         have hgw := hf1 g rfl
         have hA1 := hk1.keeps hB.out id
         have hcell : w1.cell? ⟨g, p, none⟩ = some (.int .u8 (fl.getD p 0)) := by
           have := hv1.cells (g := g) rfl p (.int .u8 (fl.getD p 0)) (by rw [u8s_get, List.getD_eq_getElem?_getD, List.getElem?_eq_getElem HpN.out]; rfl)
           rw [Addr.add_mid, Nat.zero_add] at this
           exact this
         have hfr : w1.frozen? ⟨g, p, none⟩ = false := frozen_of_row w1 g p cur 5 hh
         have H1 := H.out.fence (Y := fun k => WX X w k ∨ k = g) hk1 (fun b hb => hb.imp id (fun e => by subst e; exact ⟨hgw, blk_lt hh⟩))
         have hc1 : w1.cell? ⟨w.heap.size, 1, none⟩ = some (.int .i64 ((p : Int))) := (Blk.cell hA1 1).trans rfl
         have hc2 : w1.cell? ⟨w.heap.size, 2, none⟩ = some (.int .i64 0) := (Blk.cell hA1 2).trans rfl
         have hne : g ≠ w.heap.size := by have := hsz.out; omega
         have Hgw := Hd.mk hgw
         have KT : Hd (∀ wt, (wt = w1 ∨ ∃ y, wt = w1.setCell ⟨g, p, none⟩ (.int .u8 y)) → KeepX X w wt) := ⟨fun wt hwt => by
           have k1 := K0.out.trans ((H.out.keepOld hk1).sub (fun b hb => .inl hb))
           rcases hwt with rfl | ⟨y, rfl⟩
           · exact k1
           · exact k1.trans (fun x hx => heap_setCell_other _ _ _ _ (fun e => by have := Hlx.out x hx; have := hsz.out; simp only at e; omega))⟩
         have HT : Hd (∀ wt, (wt = w1 ∨ ∃ y, wt = w1.setCell ⟨g, p, none⟩ (.int .u8 y)) → Tw w0 wt d r M M (fun k => WX X w k ∨ k = g) ∧ g < wt.heap.size ∧ ∃ img, Bs wt (.slice (some ⟨g, 0, none⟩) (fl.length) c) img ∧ img.length ≤ fl.length ∧ img.length = fl.length) := ⟨fun wt hwt => by
           have hrow : ∃ l : List Int, l.length = fl.length ∧ wt.ownsRow 0 5 1 (.slice (some ⟨g, 0, none⟩) fl.length c) fl.length (u8s l) := by
             rcases hwt with rfl | ⟨y, rfl⟩
             · exact ⟨fl, rfl, hv1⟩
             · exact ⟨fl.set p y, by rw [List.length_set], by rw [← u8s_set]; exact (World.ownsRow.stored hv1 _ _).1⟩
           have htw : Tw w0 wt d r M M (fun k => WX X w k ∨ k = g) ∧ g < wt.heap.size := by
             rcases hwt with rfl | ⟨y, rfl⟩
             · exact ⟨H1, blk_lt hh⟩
             · exact ⟨H1.wrote ((Kp.refl _ w1).setCell _ _ (.inr (.inr rfl))), by rw [World.size_setCell]; exact blk_lt hh⟩
           obtain ⟨l, hl, hrow⟩ := hrow
           obtain ⟨A', c', e, hc', hr⟩ := ownsRow_Bs' hl.symm hrow
           injection e with e1 e2 e3
           subst e1 e3
           refine ⟨htw.1, htw.2, l.take (fl.length), ?_, by rw [List.length_take]; omega, by rw [List.length_take]; omega⟩
           have hlt : (l.take (fl.length)).length = fl.length := by rw [List.length_take]; omega
           refine ⟨_, c, by rw [hlt], by omega, ?_⟩
           rcases hr with hr | ⟨b, o, e, hr⟩
           · left; rw [hr]; simp
           · right
             refine ⟨b, o, e, fun j v hv => hr j v ?_⟩
             rw [u8s_get, List.getElem?_take] at hv
             split at hv
             · rw [u8s_get]; exact hv
             · cases hv⟩
         clear hv1 hf1 hk1 hh hgw hA1 H1)
      | (go_at_call 47
         obtain ⟨HT1, hgt, img, HB, himg, hlen⟩ := HT.out (w1.setCell ⟨g, p, none⟩ (.int .u8 (_root_.Go.bits .xor .u8 (fl[p]?.getD 0) 1))) (.inr ⟨_, rfl⟩)
         (with_reducible refine (join_at (Bs_nil _) HB (by simp; omega)).mono ?_)
         rintro e w2 ⟨v2, rfl, h21, h22, h23⟩
         rw [List.nil_append] at h21
         have K2 := Hd.mk ((KT.out (w1.setCell ⟨g, p, none⟩ (.int .u8 (_root_.Go.bits .xor .u8 (fl[p]?.getD 0) 1))) (.inr ⟨_, rfl⟩)).trans ((HT1.keepOld h23).sub (fun b hb => .inl (.inl hb))))
         have N3 : Hd (∀ k, v2.ownBlock = some k → ¬ X k) := ⟨fun k hk hx => by have := h22 k hk; have := Hlx.out k hx; have := hsz.out; have := Hgw.out; omega⟩
         have H2 := Hd.mk (HT1.fence (Y := fun k => (WX X w k ∨ k = g) ∨ v2.ownBlock = some k) h23 (fun b hb => hb.imp id (fun e => ⟨h22 b e, (h21.lt b e).2⟩)))
         have V2 := Hd.mk h21
         have I2 := Hd.mk (HB.keep (w' := w2) (fun b hb _ => h23.block b hb id))
         have N2 : Hd (∀ k, v2.ownBlock = some k → k ≠ g) := ⟨fun k hk e => by have := h22 k hk; omega⟩
         have himgI : (img.length : Int) ≤ 524288 := by omega
         have Hlen := Hd.mk hlen
         obtain ⟨A2, c2, rfl, -⟩ := ownsRow_len h21
         clear HT1 HB himg hlen h21 h22 h23 hgt)
      | (go_at_call 27
         (with_reducible refine (tw_dload H2.out (ownsRow_Bs' rfl V2.out) (fun k hk => .inr hk)).mono ?_)
         rintro e w3 ⟨rfl, h3, hk3⟩
         have H3 := Hd.mk h3
         have V3 := Hd.mk (ownsRow_keep V2.out (fun k hk hl => hk3 k (.inr hk)))
         have I3 := Hd.mk (I2.out.keep (w' := w3) (fun b hb hv => hk3 b (.inl (.inr (by simp [Value.ownBlock] at hv; omega)))))
         have K3 := Hd.mk (K2.out.trans (hk3.sub (fun b hb => .inl (.inl (.inl hb)))))
         clear h3 hk3))
    go_loopw [13, 137] (fun v13 v137 wr => ∃ (k : Nat) (l : List Int), v137 = .int .i64 k ∧ k ≤ img.length ∧ l.length = img.length ∧ Hd (wr.ownsRow 0 5 1 (.slice A2 img.length c2) img.length (u8s l)) ∧ Hd (Kp (fun b => (Value.slice A2 img.length c2).ownBlock = some b) w3 wr)) (fun _ v137 _ => img.length - (intOf v137).toNat)
    case atStart => exact ⟨0, img, rfl, Nat.zero_le _, rfl, V3, ⟨Kp.refl _ _⟩⟩
    case round =>
      obtain ⟨k, l, rfl, hk, hl, HV, HK⟩ := hrel
      by_cases hlt : k < img.length
      · have hltI : (k : Int) < (img.length : Int) := by omega
        have Hlt := Hd.mk hlt
        have Hl := Hd.mk hl
        have hv := HV.out.2
        rcases hv with ⟨_, hv⟩ | ⟨g2, c', cur, hA2, _, hh, hcc, _, _, _⟩
        · omega
        injection hA2 with hA2 e2 e3
        subst hA2 e3
        clear e2
        have hc : wr.cell? ⟨g2, k, none⟩ = some (.int .u8 (l[k]'(by omega))) := by
          have := HV.out.cells (g := g2) rfl k (.int .u8 (l[k]'(by omega))) (by rw [u8s_get, List.getElem?_eq_getElem (by omega)]; rfl)
          rw [Addr.add_mid, Nat.zero_add] at this
          exact this
        have hf : wr.frozen? ⟨g2, k, none⟩ = false := frozen_of_row wr g2 k cur 5 hh
        have hfin := fun y => Hd.mk (show (wr.setCell ⟨g2, k, none⟩ (.int .u8 y)).ownsRow 0 5 1 (.slice (some ⟨g2, 0, none⟩) img.length c2) img.length (u8s (l.set k y)) from by rw [← u8s_set]; exact (World.ownsRow.stored HV.out _ _).1)
        generalize l[k]'(by omega) = x at *
        clear hlt hk hl hh hcc
        go_wp2_with fail
        exact ⟨⟨k + 1, _, by go_num, Hlt.out, by rw [List.length_set]; exact Hl.out, hfin _, ⟨HK.out.setCell _ _ (.inr rfl)⟩⟩, by have := Hlt.out; simp [intOf]; omega⟩
      · have e : k = img.length := by omega
        subst e
        have H4 := Hd.mk (H3.out.wrote (HK.out.mono (fun k _ e => .inr e)))
        have K4 := Hd.mk (K3.out.trans ((H3.out.sub (fun b hb => .inl (.inl (.inl hb))) : Tw w0 w3 d r _ _ X).keepKp HK.out (fun x hx e => N3.out x e hx)))
        have I4 := Hd.mk (I3.out.keep (w' := wr) (fun b hb hv => HK.out.block b hb (fun e => N2.out b e (by simp [Value.ownBlock] at hv; omega))))
        clear hlt hk hl
        go_wp2_with (first
          | (go_at_call 48
             (with_reducible refine (tw_rload H4.out I4.out (fun k hk => .inl (.inr (by simp [Value.ownBlock] at hk; omega)))).mono ?_)
             rintro e w5 ⟨rfl, h5, k5⟩
             have H5 := Hd.mk h5
             have K5 := Hd.mk (K4.out.trans (k5.sub (fun b hb => .inl (.inl (.inl hb)))))
             clear h5 k5))
        go_ret
        exact ⟨ret_bool (by simp), ⟨_, H5.out.sub (fun b hb => .inl (.inl (.inl hb))), dl_grow M img⟩, K5.out⟩
set_option maxRecDepth 20000 in
set_option maxHeartbeats 4000000 in
theorem does_load_eq (h : Tw w0 w d r M M X) (vb vp : Value) {p : Nat} (hp : p < M.st.flatten.length) :
    Calls Try.prog 22 #[.pointer (some ⟨d, 0, none⟩), .pointer (some ⟨r, 0, none⟩), .agg #[.int .i64 6, .int .i64 (p : Int), .int .i64 (M.st.flatten.length : Int), vb, vp]] w fun e w' => e = .returned (.bool true) ∧ Step w0 w w' d r M X := by
    have H := Hd.mk (tw_box (xa := 6) (xp := (p : Int)) (xn := (M.st.flatten.length : Int)) h vb vp)
    have hB := Hd.mk (Blk.new w (CLS 6 (p : Int) (M.st.flatten.length : Int) vb vp) 34)
    have K0 := Hd.mk (h.keepOld ((Kp.refl (fun _ => False) w).alloc (.cells (CLS 6 (p : Int) (M.st.flatten.length : Int) vb vp).toArray 34)))
    have Hlx : Hd (∀ x, X x → x < w.heap.size) := ⟨fun x hx => h.ltX hx⟩
    have hsz : Hd ((w.alloc (.cells (CLS 6 (p : Int) (M.st.flatten.length : Int) vb vp).toArray 34)).heap.size = w.heap.size + 1) := ⟨by simp⟩
    have hfl := flat_len h.ok
    have hnI : (M.st.flatten.length : Int) ≤ 524288 := by omega
    have Hpos : Hd (0 < M.st.flatten.length) := ⟨by omega⟩
    clear h hfl
    have him := Hd.mk (tw_rsee H.out (fun G hG => rimage_at hG))
    generalize M.st.flatten = fl at *
    have hpI : (p : Int) < (fl.length : Int) := by omega
    have hpB : decide ((p : Int) < (fl.length : Int)) = true := by simp; omega
    have hp0 : 0 ≤ (p : Int) := by omega
    have hp0B : decide (0 ≤ (p : Int)) = true := by simp
    have HpN := Hd.mk hp
    have hn0 : 0 < (fl.length : Int) := by have := Hpos.out; omega
    clear hp
    go_enter Try.func22, Try.ntmps22
    go_wp2_with (first
      | (go_at_call 24
         (with_reducible refine him.out.mono ?_)
         rintro e w1 ⟨vi, rfl, hv1, hf1, hk1⟩
         have hg := hv1.2
         rcases hg with ⟨_, hg⟩ | ⟨g, c, cur, rfl, _, hh, hcc, _, _, _⟩
         · have := Hpos.out; omega
         have hcI : (fl.length : Int) ≤ (c : Int) := by omega
         have hgw := hf1 g rfl
         have hA1 := hk1.keeps hB.out id
         have hcell : w1.cell? ⟨g, p, none⟩ = some (.int .u8 (fl.getD p 0)) := by
           have := hv1.cells (g := g) rfl p (.int .u8 (fl.getD p 0)) (by rw [u8s_get, List.getD_eq_getElem?_getD, List.getElem?_eq_getElem HpN.out]; rfl)
           rw [Addr.add_mid, Nat.zero_add] at this
           exact this
         have hfr : w1.frozen? ⟨g, p, none⟩ = false := frozen_of_row w1 g p cur 5 hh
         have H1 := H.out.fence (Y := fun k => WX X w k ∨ k = g) hk1 (fun b hb => hb.imp id (fun e => by subst e; exact ⟨hgw, blk_lt hh⟩))
         have hc1 : w1.cell? ⟨w.heap.size, 1, none⟩ = some (.int .i64 ((p : Int))) := (Blk.cell hA1 1).trans rfl
         have hc2 : w1.cell? ⟨w.heap.size, 2, none⟩ = some (.int .i64 (fl.length : Int)) := (Blk.cell hA1 2).trans rfl
         have hne : g ≠ w.heap.size := by have := hsz.out; omega
         have Hgw := Hd.mk hgw
         have KT : Hd (∀ wt, (wt = w1 ∨ ∃ y, wt = w1.setCell ⟨g, p, none⟩ (.int .u8 y)) → KeepX X w wt) := ⟨fun wt hwt => by
           have k1 := K0.out.trans ((H.out.keepOld hk1).sub (fun b hb => .inl hb))
           rcases hwt with rfl | ⟨y, rfl⟩
           · exact k1
           · exact k1.trans (fun x hx => heap_setCell_other _ _ _ _ (fun e => by have := Hlx.out x hx; have := hsz.out; simp only at e; omega))⟩
         have HT : Hd (∀ wt, (wt = w1 ∨ ∃ y, wt = w1.setCell ⟨g, p, none⟩ (.int .u8 y)) → Tw w0 wt d r M M (fun k => WX X w k ∨ k = g) ∧ g < wt.heap.size ∧ ∃ img, Bs wt (.slice (some ⟨g, 0, none⟩) (0) c) img ∧ img.length ≤ fl.length ∧ img.length = 0) := ⟨fun wt hwt => by
           have hrow : ∃ l : List Int, l.length = fl.length ∧ wt.ownsRow 0 5 1 (.slice (some ⟨g, 0, none⟩) fl.length c) fl.length (u8s l) := by
             rcases hwt with rfl | ⟨y, rfl⟩
             · exact ⟨fl, rfl, hv1⟩
             · exact ⟨fl.set p y, by rw [List.length_set], by rw [← u8s_set]; exact (World.ownsRow.stored hv1 _ _).1⟩
           have htw : Tw w0 wt d r M M (fun k => WX X w k ∨ k = g) ∧ g < wt.heap.size := by
             rcases hwt with rfl | ⟨y, rfl⟩
             · exact ⟨H1, blk_lt hh⟩
             · exact ⟨H1.wrote ((Kp.refl _ w1).setCell _ _ (.inr (.inr rfl))), by rw [World.size_setCell]; exact blk_lt hh⟩
           obtain ⟨l, hl, hrow⟩ := hrow
           obtain ⟨A', c', e, hc', hr⟩ := ownsRow_Bs' hl.symm hrow
           injection e with e1 e2 e3
           subst e1 e3
           refine ⟨htw.1, htw.2, l.take (0), ?_, by rw [List.length_take]; omega, by rw [List.length_take]; omega⟩
           have hlt : (l.take (0)).length = 0 := by rw [List.length_take]; omega
           refine ⟨_, c, by rw [hlt], by omega, ?_⟩
           rcases hr with hr | ⟨b, o, e, hr⟩
           · left; rw [hr]; simp
           · right
             refine ⟨b, o, e, fun j v hv => hr j v ?_⟩
             rw [u8s_get, List.getElem?_take] at hv
             split at hv
             · rw [u8s_get]; exact hv
             · cases hv⟩
         clear hv1 hf1 hk1 hh hgw hA1 H1)
      | (go_at_call 47
         obtain ⟨HT1, hgt, img, HB, himg, hlen⟩ := HT.out (w1.setCell ⟨g, p, none⟩ (.int .u8 (_root_.Go.bits .xor .u8 (fl[p]?.getD 0) 1))) (.inr ⟨_, rfl⟩)
         (with_reducible refine (join_at (Bs_nil _) HB (by simp; omega)).mono ?_)
         rintro e w2 ⟨v2, rfl, h21, h22, h23⟩
         rw [List.nil_append] at h21
         have K2 := Hd.mk ((KT.out (w1.setCell ⟨g, p, none⟩ (.int .u8 (_root_.Go.bits .xor .u8 (fl[p]?.getD 0) 1))) (.inr ⟨_, rfl⟩)).trans ((HT1.keepOld h23).sub (fun b hb => .inl (.inl hb))))
         have N3 : Hd (∀ k, v2.ownBlock = some k → ¬ X k) := ⟨fun k hk hx => by have := h22 k hk; have := Hlx.out k hx; have := hsz.out; have := Hgw.out; omega⟩
         have H2 := Hd.mk (HT1.fence (Y := fun k => (WX X w k ∨ k = g) ∨ v2.ownBlock = some k) h23 (fun b hb => hb.imp id (fun e => ⟨h22 b e, (h21.lt b e).2⟩)))
         have V2 := Hd.mk h21
         have I2 := Hd.mk (HB.keep (w' := w2) (fun b hb _ => h23.block b hb id))
         have N2 : Hd (∀ k, v2.ownBlock = some k → k ≠ g) := ⟨fun k hk e => by have := h22 k hk; omega⟩
         have himgI : (img.length : Int) ≤ 524288 := by omega
         have Hlen := Hd.mk hlen
         obtain ⟨A2, c2, rfl, -⟩ := ownsRow_len h21
         clear HT1 HB himg hlen h21 h22 h23 hgt)
      | (go_at_call 27
         (with_reducible refine (tw_dload H2.out (ownsRow_Bs' rfl V2.out) (fun k hk => .inr hk)).mono ?_)
         rintro e w3 ⟨rfl, h3, hk3⟩
         have H3 := Hd.mk h3
         have V3 := Hd.mk (ownsRow_keep V2.out (fun k hk hl => hk3 k (.inr hk)))
         have I3 := Hd.mk (I2.out.keep (w' := w3) (fun b hb hv => hk3 b (.inl (.inr (by simp [Value.ownBlock] at hv; omega)))))
         have K3 := Hd.mk (K2.out.trans (hk3.sub (fun b hb => .inl (.inl (.inl hb)))))
         clear h3 hk3))
    go_loopw [13, 137] (fun v13 v137 wr => ∃ (k : Nat) (l : List Int), v137 = .int .i64 k ∧ k ≤ img.length ∧ l.length = img.length ∧ Hd (wr.ownsRow 0 5 1 (.slice A2 img.length c2) img.length (u8s l)) ∧ Hd (Kp (fun b => (Value.slice A2 img.length c2).ownBlock = some b) w3 wr)) (fun _ v137 _ => img.length - (intOf v137).toNat)
    case atStart => exact ⟨0, img, rfl, Nat.zero_le _, rfl, V3, ⟨Kp.refl _ _⟩⟩
    case round =>
      obtain ⟨k, l, rfl, hk, hl, HV, HK⟩ := hrel
      by_cases hlt : k < img.length
      · have hltI : (k : Int) < (img.length : Int) := by omega
        have Hlt := Hd.mk hlt
        have Hl := Hd.mk hl
        have hv := HV.out.2
        rcases hv with ⟨_, hv⟩ | ⟨g2, c', cur, hA2, _, hh, hcc, _, _, _⟩
        · omega
        injection hA2 with hA2 e2 e3
        subst hA2 e3
        clear e2
        have hc : wr.cell? ⟨g2, k, none⟩ = some (.int .u8 (l[k]'(by omega))) := by
          have := HV.out.cells (g := g2) rfl k (.int .u8 (l[k]'(by omega))) (by rw [u8s_get, List.getElem?_eq_getElem (by omega)]; rfl)
          rw [Addr.add_mid, Nat.zero_add] at this
          exact this
        have hf : wr.frozen? ⟨g2, k, none⟩ = false := frozen_of_row wr g2 k cur 5 hh
        have hfin := fun y => Hd.mk (show (wr.setCell ⟨g2, k, none⟩ (.int .u8 y)).ownsRow 0 5 1 (.slice (some ⟨g2, 0, none⟩) img.length c2) img.length (u8s (l.set k y)) from by rw [← u8s_set]; exact (World.ownsRow.stored HV.out _ _).1)
        generalize l[k]'(by omega) = x at *
        clear hlt hk hl hh hcc
        go_wp2_with fail
        exact ⟨⟨k + 1, _, by go_num, Hlt.out, by rw [List.length_set]; exact Hl.out, hfin _, ⟨HK.out.setCell _ _ (.inr rfl)⟩⟩, by have := Hlt.out; simp [intOf]; omega⟩
      · have e : k = img.length := by omega
        subst e
        have H4 := Hd.mk (H3.out.wrote (HK.out.mono (fun k _ e => .inr e)))
        have K4 := Hd.mk (K3.out.trans ((H3.out.sub (fun b hb => .inl (.inl (.inl hb))) : Tw w0 w3 d r _ _ X).keepKp HK.out (fun x hx e => N3.out x e hx)))
        have I4 := Hd.mk (I3.out.keep (w' := wr) (fun b hb hv => HK.out.block b hb (fun e => N2.out b e (by simp [Value.ownBlock] at hv; omega))))
        clear hlt hk hl
        go_wp2_with (first
          | (go_at_call 48
             (with_reducible refine (tw_rload H4.out I4.out (fun k hk => .inl (.inr (by simp [Value.ownBlock] at hk; omega)))).mono ?_)
             rintro e w5 ⟨rfl, h5, k5⟩
             have H5 := Hd.mk h5
             have K5 := Hd.mk (K4.out.trans (k5.sub (fun b hb => .inl (.inl (.inl hb)))))
             clear h5 k5))
        go_ret
        exact ⟨ret_bool (by simp), ⟨_, H5.out.sub (fun b hb => .inl (.inl (.inl hb))), dl_grow M img⟩, K5.out⟩
set_option maxRecDepth 20000 in
set_option maxHeartbeats 4000000 in
theorem does_load_hi (h : Tw w0 w d r M M X) (vb vp : Value) {p : Nat} (hp : p < M.st.flatten.length) (hn : (M.st.flatten.length : Int) < xn) :
    Calls Try.prog 22 #[.pointer (some ⟨d, 0, none⟩), .pointer (some ⟨r, 0, none⟩), .agg #[.int .i64 6, .int .i64 (p : Int), .int .i64 xn, vb, vp]] w fun e w' => e = .returned (.bool true) ∧ Step w0 w w' d r M X := by
    have H := Hd.mk (tw_box (xa := 6) (xp := (p : Int)) (xn := xn) h vb vp)
    have hB := Hd.mk (Blk.new w (CLS 6 (p : Int) xn vb vp) 34)
    have K0 := Hd.mk (h.keepOld ((Kp.refl (fun _ => False) w).alloc (.cells (CLS 6 (p : Int) xn vb vp).toArray 34)))
    have Hlx : Hd (∀ x, X x → x < w.heap.size) := ⟨fun x hx => h.ltX hx⟩
    have hsz : Hd ((w.alloc (.cells (CLS 6 (p : Int) xn vb vp).toArray 34)).heap.size = w.heap.size + 1) := ⟨by simp⟩
    have hfl := flat_len h.ok
    have hnI : (M.st.flatten.length : Int) ≤ 524288 := by omega
    have Hpos : Hd (0 < M.st.flatten.length) := ⟨by omega⟩
    clear h hfl
    have him := Hd.mk (tw_rsee H.out (fun G hG => rimage_at hG))
    generalize M.st.flatten = fl at *
    have hpI : (p : Int) < (fl.length : Int) := by omega
    have hpB : decide ((p : Int) < (fl.length : Int)) = true := by simp; omega
    have hp0 : 0 ≤ (p : Int) := by omega
    have hp0B : decide (0 ≤ (p : Int)) = true := by simp
    have HpN := Hd.mk hp
    have hn0 : 0 < xn := by have := Hpos.out; omega
    clear hp
    go_enter Try.func22, Try.ntmps22
    go_wp2_with (first
      | (go_at_call 24
         (with_reducible refine him.out.mono ?_)
         rintro e w1 ⟨vi, rfl, hv1, hf1, hk1⟩
         have hg := hv1.2
         rcases hg with ⟨_, hg⟩ | ⟨g, c, cur, rfl, _, hh, hcc, _, _, _⟩
         · have := Hpos.out; omega
         have hcI : (fl.length : Int) ≤ (c : Int) := by omega
         have hgw := hf1 g rfl
         have hA1 := hk1.keeps hB.out id
         have hcell : w1.cell? ⟨g, p, none⟩ = some (.int .u8 (fl.getD p 0)) := by
           have := hv1.cells (g := g) rfl p (.int .u8 (fl.getD p 0)) (by rw [u8s_get, List.getD_eq_getElem?_getD, List.getElem?_eq_getElem HpN.out]; rfl)
           rw [Addr.add_mid, Nat.zero_add] at this
           exact this
         have hfr : w1.frozen? ⟨g, p, none⟩ = false := frozen_of_row w1 g p cur 5 hh
         have H1 := H.out.fence (Y := fun k => WX X w k ∨ k = g) hk1 (fun b hb => hb.imp id (fun e => by subst e; exact ⟨hgw, blk_lt hh⟩))
         have hc1 : w1.cell? ⟨w.heap.size, 1, none⟩ = some (.int .i64 ((p : Int))) := (Blk.cell hA1 1).trans rfl
         have hc2 : w1.cell? ⟨w.heap.size, 2, none⟩ = some (.int .i64 xn) := (Blk.cell hA1 2).trans rfl
         have hne : g ≠ w.heap.size := by have := hsz.out; omega
         have Hgw := Hd.mk hgw
         have KT : Hd (∀ wt, (wt = w1 ∨ ∃ y, wt = w1.setCell ⟨g, p, none⟩ (.int .u8 y)) → KeepX X w wt) := ⟨fun wt hwt => by
           have k1 := K0.out.trans ((H.out.keepOld hk1).sub (fun b hb => .inl hb))
           rcases hwt with rfl | ⟨y, rfl⟩
           · exact k1
           · exact k1.trans (fun x hx => heap_setCell_other _ _ _ _ (fun e => by have := Hlx.out x hx; have := hsz.out; simp only at e; omega))⟩
         have HT : Hd (∀ wt, (wt = w1 ∨ ∃ y, wt = w1.setCell ⟨g, p, none⟩ (.int .u8 y)) → Tw w0 wt d r M M (fun k => WX X w k ∨ k = g) ∧ g < wt.heap.size ∧ ∃ img, Bs wt (.slice (some ⟨g, 0, none⟩) (0) c) img ∧ img.length ≤ fl.length ∧ img.length = 0) := ⟨fun wt hwt => by
           have hrow : ∃ l : List Int, l.length = fl.length ∧ wt.ownsRow 0 5 1 (.slice (some ⟨g, 0, none⟩) fl.length c) fl.length (u8s l) := by
             rcases hwt with rfl | ⟨y, rfl⟩
             · exact ⟨fl, rfl, hv1⟩
             · exact ⟨fl.set p y, by rw [List.length_set], by rw [← u8s_set]; exact (World.ownsRow.stored hv1 _ _).1⟩
           have htw : Tw w0 wt d r M M (fun k => WX X w k ∨ k = g) ∧ g < wt.heap.size := by
             rcases hwt with rfl | ⟨y, rfl⟩
             · exact ⟨H1, blk_lt hh⟩
             · exact ⟨H1.wrote ((Kp.refl _ w1).setCell _ _ (.inr (.inr rfl))), by rw [World.size_setCell]; exact blk_lt hh⟩
           obtain ⟨l, hl, hrow⟩ := hrow
           obtain ⟨A', c', e, hc', hr⟩ := ownsRow_Bs' hl.symm hrow
           injection e with e1 e2 e3
           subst e1 e3
           refine ⟨htw.1, htw.2, l.take (0), ?_, by rw [List.length_take]; omega, by rw [List.length_take]; omega⟩
           have hlt : (l.take (0)).length = 0 := by rw [List.length_take]; omega
           refine ⟨_, c, by rw [hlt], by omega, ?_⟩
           rcases hr with hr | ⟨b, o, e, hr⟩
           · left; rw [hr]; simp
           · right
             refine ⟨b, o, e, fun j v hv => hr j v ?_⟩
             rw [u8s_get, List.getElem?_take] at hv
             split at hv
             · rw [u8s_get]; exact hv
             · cases hv⟩
         clear hv1 hf1 hk1 hh hgw hA1 H1)
      | (go_at_call 47
         obtain ⟨HT1, hgt, img, HB, himg, hlen⟩ := HT.out (w1.setCell ⟨g, p, none⟩ (.int .u8 (_root_.Go.bits .xor .u8 (fl[p]?.getD 0) 1))) (.inr ⟨_, rfl⟩)
         (with_reducible refine (join_at (Bs_nil _) HB (by simp; omega)).mono ?_)
         rintro e w2 ⟨v2, rfl, h21, h22, h23⟩
         rw [List.nil_append] at h21
         have K2 := Hd.mk ((KT.out (w1.setCell ⟨g, p, none⟩ (.int .u8 (_root_.Go.bits .xor .u8 (fl[p]?.getD 0) 1))) (.inr ⟨_, rfl⟩)).trans ((HT1.keepOld h23).sub (fun b hb => .inl (.inl hb))))
         have N3 : Hd (∀ k, v2.ownBlock = some k → ¬ X k) := ⟨fun k hk hx => by have := h22 k hk; have := Hlx.out k hx; have := hsz.out; have := Hgw.out; omega⟩
         have H2 := Hd.mk (HT1.fence (Y := fun k => (WX X w k ∨ k = g) ∨ v2.ownBlock = some k) h23 (fun b hb => hb.imp id (fun e => ⟨h22 b e, (h21.lt b e).2⟩)))
         have V2 := Hd.mk h21
         have I2 := Hd.mk (HB.keep (w' := w2) (fun b hb _ => h23.block b hb id))
         have N2 : Hd (∀ k, v2.ownBlock = some k → k ≠ g) := ⟨fun k hk e => by have := h22 k hk; omega⟩
         have himgI : (img.length : Int) ≤ 524288 := by omega
         have Hlen := Hd.mk hlen
         obtain ⟨A2, c2, rfl, -⟩ := ownsRow_len h21
         clear HT1 HB himg hlen h21 h22 h23 hgt)
      | (go_at_call 27
         (with_reducible refine (tw_dload H2.out (ownsRow_Bs' rfl V2.out) (fun k hk => .inr hk)).mono ?_)
         rintro e w3 ⟨rfl, h3, hk3⟩
         have H3 := Hd.mk h3
         have V3 := Hd.mk (ownsRow_keep V2.out (fun k hk hl => hk3 k (.inr hk)))
         have I3 := Hd.mk (I2.out.keep (w' := w3) (fun b hb hv => hk3 b (.inl (.inr (by simp [Value.ownBlock] at hv; omega)))))
         have K3 := Hd.mk (K2.out.trans (hk3.sub (fun b hb => .inl (.inl (.inl hb)))))
         clear h3 hk3))
    go_loopw [13, 137] (fun v13 v137 wr => ∃ (k : Nat) (l : List Int), v137 = .int .i64 k ∧ k ≤ img.length ∧ l.length = img.length ∧ Hd (wr.ownsRow 0 5 1 (.slice A2 img.length c2) img.length (u8s l)) ∧ Hd (Kp (fun b => (Value.slice A2 img.length c2).ownBlock = some b) w3 wr)) (fun _ v137 _ => img.length - (intOf v137).toNat)
    case atStart => exact ⟨0, img, rfl, Nat.zero_le _, rfl, V3, ⟨Kp.refl _ _⟩⟩
    case round =>
      obtain ⟨k, l, rfl, hk, hl, HV, HK⟩ := hrel
      by_cases hlt : k < img.length
      · have hltI : (k : Int) < (img.length : Int) := by omega
        have Hlt := Hd.mk hlt
        have Hl := Hd.mk hl
        have hv := HV.out.2
        rcases hv with ⟨_, hv⟩ | ⟨g2, c', cur, hA2, _, hh, hcc, _, _, _⟩
        · omega
        injection hA2 with hA2 e2 e3
        subst hA2 e3
        clear e2
        have hc : wr.cell? ⟨g2, k, none⟩ = some (.int .u8 (l[k]'(by omega))) := by
          have := HV.out.cells (g := g2) rfl k (.int .u8 (l[k]'(by omega))) (by rw [u8s_get, List.getElem?_eq_getElem (by omega)]; rfl)
          rw [Addr.add_mid, Nat.zero_add] at this
          exact this
        have hf : wr.frozen? ⟨g2, k, none⟩ = false := frozen_of_row wr g2 k cur 5 hh
        have hfin := fun y => Hd.mk (show (wr.setCell ⟨g2, k, none⟩ (.int .u8 y)).ownsRow 0 5 1 (.slice (some ⟨g2, 0, none⟩) img.length c2) img.length (u8s (l.set k y)) from by rw [← u8s_set]; exact (World.ownsRow.stored HV.out _ _).1)
        generalize l[k]'(by omega) = x at *
        clear hlt hk hl hh hcc
        go_wp2_with fail
        exact ⟨⟨k + 1, _, by go_num, Hlt.out, by rw [List.length_set]; exact Hl.out, hfin _, ⟨HK.out.setCell _ _ (.inr rfl)⟩⟩, by have := Hlt.out; simp [intOf]; omega⟩
      · have e : k = img.length := by omega
        subst e
        have H4 := Hd.mk (H3.out.wrote (HK.out.mono (fun k _ e => .inr e)))
        have K4 := Hd.mk (K3.out.trans ((H3.out.sub (fun b hb => .inl (.inl (.inl hb))) : Tw w0 w3 d r _ _ X).keepKp HK.out (fun x hx e => N3.out x e hx)))
        have I4 := Hd.mk (I3.out.keep (w' := wr) (fun b hb hv => HK.out.block b hb (fun e => N2.out b e (by simp [Value.ownBlock] at hv; omega))))
        clear hlt hk hl
        go_wp2_with (first
          | (go_at_call 48
             (with_reducible refine (tw_rload H4.out I4.out (fun k hk => .inl (.inr (by simp [Value.ownBlock] at hk; omega)))).mono ?_)
             rintro e w5 ⟨rfl, h5, k5⟩
             have H5 := Hd.mk h5
             have K5 := Hd.mk (K4.out.trans (k5.sub (fun b hb => .inl (.inl (.inl hb)))))
             clear h5 k5))
        go_ret
        exact ⟨ret_bool (by simp), ⟨_, H5.out.sub (fun b hb => .inl (.inl (.inl hb))), dl_grow M img⟩, K5.out⟩
set_option maxRecDepth 20000 in
set_option maxHeartbeats 4000000 in
theorem does_load_mid (h : Tw w0 w d r M M X) (vb vp : Value) {p n : Nat} (hp : p < M.st.flatten.length) (hn : n < M.st.flatten.length) (hn0 : 0 < n) :
    Calls Try.prog 22 #[.pointer (some ⟨d, 0, none⟩), .pointer (some ⟨r, 0, none⟩), .agg #[.int .i64 6, .int .i64 (p : Int), .int .i64 (n : Int), vb, vp]] w fun e w' => e = .returned (.bool true) ∧ Step w0 w w' d r M X := by
    have H := Hd.mk (tw_box (xa := 6) (xp := (p : Int)) (xn := (n : Int)) h vb vp)
    have hB := Hd.mk (Blk.new w (CLS 6 (p : Int) (n : Int) vb vp) 34)
    have K0 := Hd.mk (h.keepOld ((Kp.refl (fun _ => False) w).alloc (.cells (CLS 6 (p : Int) (n : Int) vb vp).toArray 34)))
    have Hlx : Hd (∀ x, X x → x < w.heap.size) := ⟨fun x hx => h.ltX hx⟩
    have hsz : Hd ((w.alloc (.cells (CLS 6 (p : Int) (n : Int) vb vp).toArray 34)).heap.size = w.heap.size + 1) := ⟨by simp⟩
    have hfl := flat_len h.ok
    have hnI : (M.st.flatten.length : Int) ≤ 524288 := by omega
    have Hpos : Hd (0 < M.st.flatten.length) := ⟨by omega⟩
    clear h hfl
    have him := Hd.mk (tw_rsee H.out (fun G hG => rimage_at hG))
    generalize M.st.flatten = fl at *
    have hpI : (p : Int) < (fl.length : Int) := by omega
    have hpB : decide ((p : Int) < (fl.length : Int)) = true := by simp; omega
    have hp0 : 0 ≤ (p : Int) := by omega
    have hp0B : decide (0 ≤ (p : Int)) = true := by simp
    have HpN := Hd.mk hp
    have hnI2 : (n : Int) < (fl.length : Int) := by omega
    have hn0I : 0 < (n : Int) := by omega
    clear hp hn hn0
    go_enter Try.func22, Try.ntmps22
    go_wp2_with (first
      | (go_at_call 24
         (with_reducible refine him.out.mono ?_)
         rintro e w1 ⟨vi, rfl, hv1, hf1, hk1⟩
         have hg := hv1.2
         rcases hg with ⟨_, hg⟩ | ⟨g, c, cur, rfl, _, hh, hcc, _, _, _⟩
         · have := Hpos.out; omega
         have hcI : (fl.length : Int) ≤ (c : Int) := by omega
         have hgw := hf1 g rfl
         have hA1 := hk1.keeps hB.out id
         have hcell : w1.cell? ⟨g, p, none⟩ = some (.int .u8 (fl.getD p 0)) := by
           have := hv1.cells (g := g) rfl p (.int .u8 (fl.getD p 0)) (by rw [u8s_get, List.getD_eq_getElem?_getD, List.getElem?_eq_getElem HpN.out]; rfl)
           rw [Addr.add_mid, Nat.zero_add] at this
           exact this
         have hfr : w1.frozen? ⟨g, p, none⟩ = false := frozen_of_row w1 g p cur 5 hh
         have H1 := H.out.fence (Y := fun k => WX X w k ∨ k = g) hk1 (fun b hb => hb.imp id (fun e => by subst e; exact ⟨hgw, blk_lt hh⟩))
         have hc1 : w1.cell? ⟨w.heap.size, 1, none⟩ = some (.int .i64 ((p : Int))) := (Blk.cell hA1 1).trans rfl
         have hc2 : w1.cell? ⟨w.heap.size, 2, none⟩ = some (.int .i64 (n : Int)) := (Blk.cell hA1 2).trans rfl
         have hne : g ≠ w.heap.size := by have := hsz.out; omega
         have Hgw := Hd.mk hgw
         have KT : Hd (∀ wt, (wt = w1 ∨ ∃ y, wt = w1.setCell ⟨g, p, none⟩ (.int .u8 y)) → KeepX X w wt) := ⟨fun wt hwt => by
           have k1 := K0.out.trans ((H.out.keepOld hk1).sub (fun b hb => .inl hb))
           rcases hwt with rfl | ⟨y, rfl⟩
           · exact k1
           · exact k1.trans (fun x hx => heap_setCell_other _ _ _ _ (fun e => by have := Hlx.out x hx; have := hsz.out; simp only at e; omega))⟩
         have HT : Hd (∀ wt, (wt = w1 ∨ ∃ y, wt = w1.setCell ⟨g, p, none⟩ (.int .u8 y)) → Tw w0 wt d r M M (fun k => WX X w k ∨ k = g) ∧ g < wt.heap.size ∧ ∃ img, Bs wt (.slice (some ⟨g, 0, none⟩) (fl.length - n) c) img ∧ img.length ≤ fl.length ∧ img.length = fl.length - n) := ⟨fun wt hwt => by
           have hrow : ∃ l : List Int, l.length = fl.length ∧ wt.ownsRow 0 5 1 (.slice (some ⟨g, 0, none⟩) fl.length c) fl.length (u8s l) := by
             rcases hwt with rfl | ⟨y, rfl⟩
             · exact ⟨fl, rfl, hv1⟩
             · exact ⟨fl.set p y, by rw [List.length_set], by rw [← u8s_set]; exact (World.ownsRow.stored hv1 _ _).1⟩
           have htw : Tw w0 wt d r M M (fun k => WX X w k ∨ k = g) ∧ g < wt.heap.size := by
             rcases hwt with rfl | ⟨y, rfl⟩
             · exact ⟨H1, blk_lt hh⟩
             · exact ⟨H1.wrote ((Kp.refl _ w1).setCell _ _ (.inr (.inr rfl))), by rw [World.size_setCell]; exact blk_lt hh⟩
           obtain ⟨l, hl, hrow⟩ := hrow
           obtain ⟨A', c', e, hc', hr⟩ := ownsRow_Bs' hl.symm hrow
           injection e with e1 e2 e3
           subst e1 e3
           refine ⟨htw.1, htw.2, l.take (fl.length - n), ?_, by rw [List.length_take]; omega, by rw [List.length_take]; omega⟩
           have hlt : (l.take (fl.length - n)).length = fl.length - n := by rw [List.length_take]; omega
           refine ⟨_, c, by rw [hlt], by omega, ?_⟩
           rcases hr with hr | ⟨b, o, e, hr⟩
           · left; rw [hr]; simp
           · right
             refine ⟨b, o, e, fun j v hv => hr j v ?_⟩
             rw [u8s_get, List.getElem?_take] at hv
             split at hv
             · rw [u8s_get]; exact hv
             · cases hv⟩
         clear hv1 hf1 hk1 hh hgw hA1 H1)
      | (go_at_call 47
         obtain ⟨HT1, hgt, img, HB, himg, hlen⟩ := HT.out (w1.setCell ⟨g, p, none⟩ (.int .u8 (_root_.Go.bits .xor .u8 (fl[p]?.getD 0) 1))) (.inr ⟨_, rfl⟩)
         (with_reducible refine (join_at (Bs_nil _) HB (by simp; omega)).mono ?_)
         rintro e w2 ⟨v2, rfl, h21, h22, h23⟩
         rw [List.nil_append] at h21
         have K2 := Hd.mk ((KT.out (w1.setCell ⟨g, p, none⟩ (.int .u8 (_root_.Go.bits .xor .u8 (fl[p]?.getD 0) 1))) (.inr ⟨_, rfl⟩)).trans ((HT1.keepOld h23).sub (fun b hb => .inl (.inl hb))))
         have N3 : Hd (∀ k, v2.ownBlock = some k → ¬ X k) := ⟨fun k hk hx => by have := h22 k hk; have := Hlx.out k hx; have := hsz.out; have := Hgw.out; omega⟩
         have H2 := Hd.mk (HT1.fence (Y := fun k => (WX X w k ∨ k = g) ∨ v2.ownBlock = some k) h23 (fun b hb => hb.imp id (fun e => ⟨h22 b e, (h21.lt b e).2⟩)))
         have V2 := Hd.mk h21
         have I2 := Hd.mk (HB.keep (w' := w2) (fun b hb _ => h23.block b hb id))
         have N2 : Hd (∀ k, v2.ownBlock = some k → k ≠ g) := ⟨fun k hk e => by have := h22 k hk; omega⟩
         have himgI : (img.length : Int) ≤ 524288 := by omega
         have Hlen := Hd.mk hlen
         obtain ⟨A2, c2, rfl, -⟩ := ownsRow_len h21
         clear HT1 HB himg hlen h21 h22 h23 hgt)
      | (go_at_call 27
         (with_reducible refine (tw_dload H2.out (ownsRow_Bs' rfl V2.out) (fun k hk => .inr hk)).mono ?_)
         rintro e w3 ⟨rfl, h3, hk3⟩
         have H3 := Hd.mk h3
         have V3 := Hd.mk (ownsRow_keep V2.out (fun k hk hl => hk3 k (.inr hk)))
         have I3 := Hd.mk (I2.out.keep (w' := w3) (fun b hb hv => hk3 b (.inl (.inr (by simp [Value.ownBlock] at hv; omega)))))
         have K3 := Hd.mk (K2.out.trans (hk3.sub (fun b hb => .inl (.inl (.inl hb)))))
         clear h3 hk3))
    go_loopw [13, 137] (fun v13 v137 wr => ∃ (k : Nat) (l : List Int), v137 = .int .i64 k ∧ k ≤ img.length ∧ l.length = img.length ∧ Hd (wr.ownsRow 0 5 1 (.slice A2 img.length c2) img.length (u8s l)) ∧ Hd (Kp (fun b => (Value.slice A2 img.length c2).ownBlock = some b) w3 wr)) (fun _ v137 _ => img.length - (intOf v137).toNat)
    case atStart => exact ⟨0, img, rfl, Nat.zero_le _, rfl, V3, ⟨Kp.refl _ _⟩⟩
    case round =>
      obtain ⟨k, l, rfl, hk, hl, HV, HK⟩ := hrel
      by_cases hlt : k < img.length
      · have hltI : (k : Int) < (img.length : Int) := by omega
        have Hlt := Hd.mk hlt
        have Hl := Hd.mk hl
        have hv := HV.out.2
        rcases hv with ⟨_, hv⟩ | ⟨g2, c', cur, hA2, _, hh, hcc, _, _, _⟩
        · omega
        injection hA2 with hA2 e2 e3
        subst hA2 e3
        clear e2
        have hc : wr.cell? ⟨g2, k, none⟩ = some (.int .u8 (l[k]'(by omega))) := by
          have := HV.out.cells (g := g2) rfl k (.int .u8 (l[k]'(by omega))) (by rw [u8s_get, List.getElem?_eq_getElem (by omega)]; rfl)
          rw [Addr.add_mid, Nat.zero_add] at this
          exact this
        have hf : wr.frozen? ⟨g2, k, none⟩ = false := frozen_of_row wr g2 k cur 5 hh
        have hfin := fun y => Hd.mk (show (wr.setCell ⟨g2, k, none⟩ (.int .u8 y)).ownsRow 0 5 1 (.slice (some ⟨g2, 0, none⟩) img.length c2) img.length (u8s (l.set k y)) from by rw [← u8s_set]; exact (World.ownsRow.stored HV.out _ _).1)
        generalize l[k]'(by omega) = x at *
        clear hlt hk hl hh hcc
        go_wp2_with fail
        exact ⟨⟨k + 1, _, by go_num, Hlt.out, by rw [List.length_set]; exact Hl.out, hfin _, ⟨HK.out.setCell _ _ (.inr rfl)⟩⟩, by have := Hlt.out; simp [intOf]; omega⟩
      · have e : k = img.length := by omega
        subst e
        have H4 := Hd.mk (H3.out.wrote (HK.out.mono (fun k _ e => .inr e)))
        have K4 := Hd.mk (K3.out.trans ((H3.out.sub (fun b hb => .inl (.inl (.inl hb))) : Tw w0 w3 d r _ _ X).keepKp HK.out (fun x hx e => N3.out x e hx)))
        have I4 := Hd.mk (I3.out.keep (w' := wr) (fun b hb hv => HK.out.block b hb (fun e => N2.out b e (by simp [Value.ownBlock] at hv; omega))))
        clear hlt hk hl
        go_wp2_with (first
          | (go_at_call 48
             (with_reducible refine (tw_rload H4.out I4.out (fun k hk => .inl (.inr (by simp [Value.ownBlock] at hk; omega)))).mono ?_)
             rintro e w5 ⟨rfl, h5, k5⟩
             have H5 := Hd.mk h5
             have K5 := Hd.mk (K4.out.trans (k5.sub (fun b hb => .inl (.inl (.inl hb)))))
             clear h5 k5))
        go_ret
        exact ⟨ret_bool (by simp), ⟨_, H5.out.sub (fun b hb => .inl (.inl (.inl hb))), dl_grow M img⟩, K5.out⟩
set_option maxRecDepth 20000 in
set_option maxHeartbeats 4000000 in
theorem does_load_outA (h : Tw w0 w d r M M X) (vb vp : Value) (hp : xp < 0) :
    Calls Try.prog 22 #[.pointer (some ⟨d, 0, none⟩), .pointer (some ⟨r, 0, none⟩), .agg #[.int .i64 6, .int .i64 xp, .int .i64 xn, vb, vp]] w fun e w' => e = .returned (.bool true) ∧ Step w0 w w' d r M X := by
    have H := Hd.mk (tw_box (xa := 6) (xp := xp) (xn := xn) h vb vp)
    have hB := Hd.mk (Blk.new w (CLS 6 xp xn vb vp) 34)
    have K0 := Hd.mk (h.keepOld ((Kp.refl (fun _ => False) w).alloc (.cells (CLS 6 xp xn vb vp).toArray 34)))
    have Hlx : Hd (∀ x, X x → x < w.heap.size) := ⟨fun x hx => h.ltX hx⟩
    have hsz : Hd ((w.alloc (.cells (CLS 6 xp xn vb vp).toArray 34)).heap.size = w.heap.size + 1) := ⟨by simp⟩
    have hfl := flat_len h.ok
    have hnI : (M.st.flatten.length : Int) ≤ 524288 := by omega
    have Hpos : Hd (0 < M.st.flatten.length) := ⟨by omega⟩
    clear h hfl
    have him := Hd.mk (tw_rsee H.out (fun G hG => rimage_at hG))
    generalize M.st.flatten = fl at *
    have hp0B : decide (0 ≤ xp) = false := by simp; omega
    go_enter Try.func22, Try.ntmps22
    go_wp2_with (first
      | (go_at_call 24
         (with_reducible refine him.out.mono ?_)
         rintro e w1 ⟨vi, rfl, hv1, hf1, hk1⟩
         have hg := hv1.2
         rcases hg with ⟨_, hg⟩ | ⟨g, c, cur, rfl, _, hh, hcc, _, _, _⟩
         · have := Hpos.out; omega
         have hcI : (fl.length : Int) ≤ (c : Int) := by omega
         have hgw := hf1 g rfl
         have hA1 := hk1.keeps hB.out id
         have H1 := H.out.fence (Y := fun k => WX X w k ∨ k = g) hk1 (fun b hb => hb.imp id (fun e => by subst e; exact ⟨hgw, blk_lt hh⟩))
         have hc1 : w1.cell? ⟨w.heap.size, 1, none⟩ = some (.int .i64 (xp)) := (Blk.cell hA1 1).trans rfl
         have hc2 : w1.cell? ⟨w.heap.size, 2, none⟩ = some (.int .i64 xn) := (Blk.cell hA1 2).trans rfl
         have hne : g ≠ w.heap.size := by have := hsz.out; omega
         have Hgw := Hd.mk hgw
         have KT : Hd (∀ wt, (wt = w1 ∨ ∃ y, wt = w1.setCell ⟨g, 0, none⟩ (.int .u8 y)) → KeepX X w wt) := ⟨fun wt hwt => by
           have k1 := K0.out.trans ((H.out.keepOld hk1).sub (fun b hb => .inl hb))
           rcases hwt with rfl | ⟨y, rfl⟩
           · exact k1
           · exact k1.trans (fun x hx => heap_setCell_other _ _ _ _ (fun e => by have := Hlx.out x hx; have := hsz.out; simp only at e; omega))⟩
         have HT : Hd (∀ wt, (wt = w1 ∨ ∃ y, wt = w1.setCell ⟨g, 0, none⟩ (.int .u8 y)) → Tw w0 wt d r M M (fun k => WX X w k ∨ k = g) ∧ g < wt.heap.size ∧ ∃ img, Bs wt (.slice (some ⟨g, 0, none⟩) (fl.length) c) img ∧ img.length ≤ fl.length ∧ img.length = fl.length) := ⟨fun wt hwt => by
           have hrow : ∃ l : List Int, l.length = fl.length ∧ wt.ownsRow 0 5 1 (.slice (some ⟨g, 0, none⟩) fl.length c) fl.length (u8s l) := by
             rcases hwt with rfl | ⟨y, rfl⟩
             · exact ⟨fl, rfl, hv1⟩
             · exact ⟨fl.set 0 y, by rw [List.length_set], by rw [← u8s_set]; exact (World.ownsRow.stored hv1 _ _).1⟩
           have htw : Tw w0 wt d r M M (fun k => WX X w k ∨ k = g) ∧ g < wt.heap.size := by
             rcases hwt with rfl | ⟨y, rfl⟩
             · exact ⟨H1, blk_lt hh⟩
             · exact ⟨H1.wrote ((Kp.refl _ w1).setCell _ _ (.inr (.inr rfl))), by rw [World.size_setCell]; exact blk_lt hh⟩
           obtain ⟨l, hl, hrow⟩ := hrow
           obtain ⟨A', c', e, hc', hr⟩ := ownsRow_Bs' hl.symm hrow
           injection e with e1 e2 e3
           subst e1 e3
           refine ⟨htw.1, htw.2, l.take (fl.length), ?_, by rw [List.length_take]; omega, by rw [List.length_take]; omega⟩
           have hlt : (l.take (fl.length)).length = fl.length := by rw [List.length_take]; omega
           refine ⟨_, c, by rw [hlt], by omega, ?_⟩
           rcases hr with hr | ⟨b, o, e, hr⟩
           · left; rw [hr]; simp
           · right
             refine ⟨b, o, e, fun j v hv => hr j v ?_⟩
             rw [u8s_get, List.getElem?_take] at hv
             split at hv
             · rw [u8s_get]; exact hv
             · cases hv⟩
         clear hv1 hf1 hk1 hh hgw hA1 H1)
      | (go_at_call 47
         obtain ⟨HT1, hgt, img, HB, himg, hlen⟩ := HT.out w1 (.inl rfl)
         (with_reducible refine (join_at (Bs_nil _) HB (by simp; omega)).mono ?_)
         rintro e w2 ⟨v2, rfl, h21, h22, h23⟩
         rw [List.nil_append] at h21
         have K2 := Hd.mk ((KT.out w1 (.inl rfl)).trans ((HT1.keepOld h23).sub (fun b hb => .inl (.inl hb))))
         have N3 : Hd (∀ k, v2.ownBlock = some k → ¬ X k) := ⟨fun k hk hx => by have := h22 k hk; have := Hlx.out k hx; have := hsz.out; have := Hgw.out; omega⟩
         have H2 := Hd.mk (HT1.fence (Y := fun k => (WX X w k ∨ k = g) ∨ v2.ownBlock = some k) h23 (fun b hb => hb.imp id (fun e => ⟨h22 b e, (h21.lt b e).2⟩)))
         have V2 := Hd.mk h21
         have I2 := Hd.mk (HB.keep (w' := w2) (fun b hb _ => h23.block b hb id))
         have N2 : Hd (∀ k, v2.ownBlock = some k → k ≠ g) := ⟨fun k hk e => by have := h22 k hk; omega⟩
         have himgI : (img.length : Int) ≤ 524288 := by omega
         have Hlen := Hd.mk hlen
         obtain ⟨A2, c2, rfl, -⟩ := ownsRow_len h21
         clear HT1 HB himg hlen h21 h22 h23 hgt)
      | (go_at_call 27
         (with_reducible refine (tw_dload H2.out (ownsRow_Bs' rfl V2.out) (fun k hk => .inr hk)).mono ?_)
         rintro e w3 ⟨rfl, h3, hk3⟩
         have H3 := Hd.mk h3
         have V3 := Hd.mk (ownsRow_keep V2.out (fun k hk hl => hk3 k (.inr hk)))
         have I3 := Hd.mk (I2.out.keep (w' := w3) (fun b hb hv => hk3 b (.inl (.inr (by simp [Value.ownBlock] at hv; omega)))))
         have K3 := Hd.mk (K2.out.trans (hk3.sub (fun b hb => .inl (.inl (.inl hb)))))
         clear h3 hk3))
    go_loopw [13, 137] (fun v13 v137 wr => ∃ (k : Nat) (l : List Int), v137 = .int .i64 k ∧ k ≤ img.length ∧ l.length = img.length ∧ Hd (wr.ownsRow 0 5 1 (.slice A2 img.length c2) img.length (u8s l)) ∧ Hd (Kp (fun b => (Value.slice A2 img.length c2).ownBlock = some b) w3 wr)) (fun _ v137 _ => img.length - (intOf v137).toNat)
    case atStart => exact ⟨0, img, rfl, Nat.zero_le _, rfl, V3, ⟨Kp.refl _ _⟩⟩
    case round =>
      obtain ⟨k, l, rfl, hk, hl, HV, HK⟩ := hrel
      by_cases hlt : k < img.length
      · have hltI : (k : Int) < (img.length : Int) := by omega
        have Hlt := Hd.mk hlt
        have Hl := Hd.mk hl
        have hv := HV.out.2
        rcases hv with ⟨_, hv⟩ | ⟨g2, c', cur, hA2, _, hh, hcc, _, _, _⟩
        · omega
        injection hA2 with hA2 e2 e3
        subst hA2 e3
        clear e2
        have hc : wr.cell? ⟨g2, k, none⟩ = some (.int .u8 (l[k]'(by omega))) := by
          have := HV.out.cells (g := g2) rfl k (.int .u8 (l[k]'(by omega))) (by rw [u8s_get, List.getElem?_eq_getElem (by omega)]; rfl)
          rw [Addr.add_mid, Nat.zero_add] at this
          exact this
        have hf : wr.frozen? ⟨g2, k, none⟩ = false := frozen_of_row wr g2 k cur 5 hh
        have hfin := fun y => Hd.mk (show (wr.setCell ⟨g2, k, none⟩ (.int .u8 y)).ownsRow 0 5 1 (.slice (some ⟨g2, 0, none⟩) img.length c2) img.length (u8s (l.set k y)) from by rw [← u8s_set]; exact (World.ownsRow.stored HV.out _ _).1)
        generalize l[k]'(by omega) = x at *
        clear hlt hk hl hh hcc
        go_wp2_with fail
        exact ⟨⟨k + 1, _, by go_num, Hlt.out, by rw [List.length_set]; exact Hl.out, hfin _, ⟨HK.out.setCell _ _ (.inr rfl)⟩⟩, by have := Hlt.out; simp [intOf]; omega⟩
      · have e : k = img.length := by omega
        subst e
        have H4 := Hd.mk (H3.out.wrote (HK.out.mono (fun k _ e => .inr e)))
        have K4 := Hd.mk (K3.out.trans ((H3.out.sub (fun b hb => .inl (.inl (.inl hb))) : Tw w0 w3 d r _ _ X).keepKp HK.out (fun x hx e => N3.out x e hx)))
        have I4 := Hd.mk (I3.out.keep (w' := wr) (fun b hb hv => HK.out.block b hb (fun e => N2.out b e (by simp [Value.ownBlock] at hv; omega))))
        clear hlt hk hl
        go_wp2_with (first
          | (go_at_call 48
             (with_reducible refine (tw_rload H4.out I4.out (fun k hk => .inl (.inr (by simp [Value.ownBlock] at hk; omega)))).mono ?_)
             rintro e w5 ⟨rfl, h5, k5⟩
             have H5 := Hd.mk h5
             have K5 := Hd.mk (K4.out.trans (k5.sub (fun b hb => .inl (.inl (.inl hb)))))
             clear h5 k5))
        go_ret
        exact ⟨ret_bool (by simp), ⟨_, H5.out.sub (fun b hb => .inl (.inl (.inl hb))), dl_grow M img⟩, K5.out⟩
set_option maxRecDepth 20000 in
set_option maxHeartbeats 4000000 in
theorem does_load_outB (h : Tw w0 w d r M M X) (vb vp : Value) (hp0 : 0 ≤ xp) (hp : (M.st.flatten.length : Int) ≤ xp) :
    Calls Try.prog 22 #[.pointer (some ⟨d, 0, none⟩), .pointer (some ⟨r, 0, none⟩), .agg #[.int .i64 6, .int .i64 xp, .int .i64 xn, vb, vp]] w fun e w' => e = .returned (.bool true) ∧ Step w0 w w' d r M X := by
    have H := Hd.mk (tw_box (xa := 6) (xp := xp) (xn := xn) h vb vp)
    have hB := Hd.mk (Blk.new w (CLS 6 xp xn vb vp) 34)
    have K0 := Hd.mk (h.keepOld ((Kp.refl (fun _ => False) w).alloc (.cells (CLS 6 xp xn vb vp).toArray 34)))
    have Hlx : Hd (∀ x, X x → x < w.heap.size) := ⟨fun x hx => h.ltX hx⟩
    have hsz : Hd ((w.alloc (.cells (CLS 6 xp xn vb vp).toArray 34)).heap.size = w.heap.size + 1) := ⟨by simp⟩
    have hfl := flat_len h.ok
    have hnI : (M.st.flatten.length : Int) ≤ 524288 := by omega
    have Hpos : Hd (0 < M.st.flatten.length) := ⟨by omega⟩
    clear h hfl
    have him := Hd.mk (tw_rsee H.out (fun G hG => rimage_at hG))
    generalize M.st.flatten = fl at *
    have hp0B : decide (0 ≤ xp) = true := by simp; omega
    have hpB : decide (xp < (fl.length : Int)) = false := by simp; omega
    go_enter Try.func22, Try.ntmps22
    go_wp2_with (first
      | (go_at_call 24
         (with_reducible refine him.out.mono ?_)
         rintro e w1 ⟨vi, rfl, hv1, hf1, hk1⟩
         have hg := hv1.2
         rcases hg with ⟨_, hg⟩ | ⟨g, c, cur, rfl, _, hh, hcc, _, _, _⟩
         · have := Hpos.out; omega
         have hcI : (fl.length : Int) ≤ (c : Int) := by omega
         have hgw := hf1 g rfl
         have hA1 := hk1.keeps hB.out id
         have H1 := H.out.fence (Y := fun k => WX X w k ∨ k = g) hk1 (fun b hb => hb.imp id (fun e => by subst e; exact ⟨hgw, blk_lt hh⟩))
         have hc1 : w1.cell? ⟨w.heap.size, 1, none⟩ = some (.int .i64 (xp)) := (Blk.cell hA1 1).trans rfl
         have hc2 : w1.cell? ⟨w.heap.size, 2, none⟩ = some (.int .i64 xn) := (Blk.cell hA1 2).trans rfl
         have hne : g ≠ w.heap.size := by have := hsz.out; omega
         have Hgw := Hd.mk hgw
         have KT : Hd (∀ wt, (wt = w1 ∨ ∃ y, wt = w1.setCell ⟨g, 0, none⟩ (.int .u8 y)) → KeepX X w wt) := ⟨fun wt hwt => by
           have k1 := K0.out.trans ((H.out.keepOld hk1).sub (fun b hb => .inl hb))
           rcases hwt with rfl | ⟨y, rfl⟩
           · exact k1
           · exact k1.trans (fun x hx => heap_setCell_other _ _ _ _ (fun e => by have := Hlx.out x hx; have := hsz.out; simp only at e; omega))⟩
         have HT : Hd (∀ wt, (wt = w1 ∨ ∃ y, wt = w1.setCell ⟨g, 0, none⟩ (.int .u8 y)) → Tw w0 wt d r M M (fun k => WX X w k ∨ k = g) ∧ g < wt.heap.size ∧ ∃ img, Bs wt (.slice (some ⟨g, 0, none⟩) (fl.length) c) img ∧ img.length ≤ fl.length ∧ img.length = fl.length) := ⟨fun wt hwt => by
           have hrow : ∃ l : List Int, l.length = fl.length ∧ wt.ownsRow 0 5 1 (.slice (some ⟨g, 0, none⟩) fl.length c) fl.length (u8s l) := by
             rcases hwt with rfl | ⟨y, rfl⟩
             · exact ⟨fl, rfl, hv1⟩
             · exact ⟨fl.set 0 y, by rw [List.length_set], by rw [← u8s_set]; exact (World.ownsRow.stored hv1 _ _).1⟩
           have htw : Tw w0 wt d r M M (fun k => WX X w k ∨ k = g) ∧ g < wt.heap.size := by
             rcases hwt with rfl | ⟨y, rfl⟩
             · exact ⟨H1, blk_lt hh⟩
             · exact ⟨H1.wrote ((Kp.refl _ w1).setCell _ _ (.inr (.inr rfl))), by rw [World.size_setCell]; exact blk_lt hh⟩
           obtain ⟨l, hl, hrow⟩ := hrow
           obtain ⟨A', c', e, hc', hr⟩ := ownsRow_Bs' hl.symm hrow
           injection e with e1 e2 e3
           subst e1 e3
           refine ⟨htw.1, htw.2, l.take (fl.length), ?_, by rw [List.length_take]; omega, by rw [List.length_take]; omega⟩
           have hlt : (l.take (fl.length)).length = fl.length := by rw [List.length_take]; omega
           refine ⟨_, c, by rw [hlt], by omega, ?_⟩
           rcases hr with hr | ⟨b, o, e, hr⟩
           · left; rw [hr]; simp
           · right
             refine ⟨b, o, e, fun j v hv => hr j v ?_⟩
             rw [u8s_get, List.getElem?_take] at hv
             split at hv
             · rw [u8s_get]; exact hv
             · cases hv⟩
         clear hv1 hf1 hk1 hh hgw hA1 H1)
      | (go_at_call 47
         obtain ⟨HT1, hgt, img, HB, himg, hlen⟩ := HT.out w1 (.inl rfl)
         (with_reducible refine (join_at (Bs_nil _) HB (by simp; omega)).mono ?_)
         rintro e w2 ⟨v2, rfl, h21, h22, h23⟩
         rw [List.nil_append] at h21
         have K2 := Hd.mk ((KT.out w1 (.inl rfl)).trans ((HT1.keepOld h23).sub (fun b hb => .inl (.inl hb))))
         have N3 : Hd (∀ k, v2.ownBlock = some k → ¬ X k) := ⟨fun k hk hx => by have := h22 k hk; have := Hlx.out k hx; have := hsz.out; have := Hgw.out; omega⟩
         have H2 := Hd.mk (HT1.fence (Y := fun k => (WX X w k ∨ k = g) ∨ v2.ownBlock = some k) h23 (fun b hb => hb.imp id (fun e => ⟨h22 b e, (h21.lt b e).2⟩)))
         have V2 := Hd.mk h21
         have I2 := Hd.mk (HB.keep (w' := w2) (fun b hb _ => h23.block b hb id))
         have N2 : Hd (∀ k, v2.ownBlock = some k → k ≠ g) := ⟨fun k hk e => by have := h22 k hk; omega⟩
         have himgI : (img.length : Int) ≤ 524288 := by omega
         have Hlen := Hd.mk hlen
         obtain ⟨A2, c2, rfl, -⟩ := ownsRow_len h21
         clear HT1 HB himg hlen h21 h22 h23 hgt)
      | (go_at_call 27
         (with_reducible refine (tw_dload H2.out (ownsRow_Bs' rfl V2.out) (fun k hk => .inr hk)).mono ?_)
         rintro e w3 ⟨rfl, h3, hk3⟩
         have H3 := Hd.mk h3
         have V3 := Hd.mk (ownsRow_keep V2.out (fun k hk hl => hk3 k (.inr hk)))
         have I3 := Hd.mk (I2.out.keep (w' := w3) (fun b hb hv => hk3 b (.inl (.inr (by simp [Value.ownBlock] at hv; omega)))))
         have K3 := Hd.mk (K2.out.trans (hk3.sub (fun b hb => .inl (.inl (.inl hb)))))
         clear h3 hk3))
    go_loopw [13, 137] (fun v13 v137 wr => ∃ (k : Nat) (l : List Int), v137 = .int .i64 k ∧ k ≤ img.length ∧ l.length = img.length ∧ Hd (wr.ownsRow 0 5 1 (.slice A2 img.length c2) img.length (u8s l)) ∧ Hd (Kp (fun b => (Value.slice A2 img.length c2).ownBlock = some b) w3 wr)) (fun _ v137 _ => img.length - (intOf v137).toNat)
    case atStart => exact ⟨0, img, rfl, Nat.zero_le _, rfl, V3, ⟨Kp.refl _ _⟩⟩
    case round =>
      obtain ⟨k, l, rfl, hk, hl, HV, HK⟩ := hrel
      by_cases hlt : k < img.length
      · have hltI : (k : Int) < (img.length : Int) := by omega
        have Hlt := Hd.mk hlt
        have Hl := Hd.mk hl
        have hv := HV.out.2
        rcases hv with ⟨_, hv⟩ | ⟨g2, c', cur, hA2, _, hh, hcc, _, _, _⟩
        · omega
        injection hA2 with hA2 e2 e3
        subst hA2 e3
        clear e2
        have hc : wr.cell? ⟨g2, k, none⟩ = some (.int .u8 (l[k]'(by omega))) := by
          have := HV.out.cells (g := g2) rfl k (.int .u8 (l[k]'(by omega))) (by rw [u8s_get, List.getElem?_eq_getElem (by omega)]; rfl)
          rw [Addr.add_mid, Nat.zero_add] at this
          exact this
        have hf : wr.frozen? ⟨g2, k, none⟩ = false := frozen_of_row wr g2 k cur 5 hh
        have hfin := fun y => Hd.mk (show (wr.setCell ⟨g2, k, none⟩ (.int .u8 y)).ownsRow 0 5 1 (.slice (some ⟨g2, 0, none⟩) img.length c2) img.length (u8s (l.set k y)) from by rw [← u8s_set]; exact (World.ownsRow.stored HV.out _ _).1)
        generalize l[k]'(by omega) = x at *
        clear hlt hk hl hh hcc
        go_wp2_with fail
        exact ⟨⟨k + 1, _, by go_num, Hlt.out, by rw [List.length_set]; exact Hl.out, hfin _, ⟨HK.out.setCell _ _ (.inr rfl)⟩⟩, by have := Hlt.out; simp [intOf]; omega⟩
      · have e : k = img.length := by omega
        subst e
        have H4 := Hd.mk (H3.out.wrote (HK.out.mono (fun k _ e => .inr e)))
        have K4 := Hd.mk (K3.out.trans ((H3.out.sub (fun b hb => .inl (.inl (.inl hb))) : Tw w0 w3 d r _ _ X).keepKp HK.out (fun x hx e => N3.out x e hx)))
        have I4 := Hd.mk (I3.out.keep (w' := wr) (fun b hb hv => HK.out.block b hb (fun e => N2.out b e (by simp [Value.ownBlock] at hv; omega))))
        clear hlt hk hl
        go_wp2_with (first
          | (go_at_call 48
             (with_reducible refine (tw_rload H4.out I4.out (fun k hk => .inl (.inr (by simp [Value.ownBlock] at hk; omega)))).mono ?_)
             rintro e w5 ⟨rfl, h5, k5⟩
             have H5 := Hd.mk h5
             have K5 := Hd.mk (K4.out.trans (k5.sub (fun b hb => .inl (.inl (.inl hb)))))
             clear h5 k5))
        go_ret
        exact ⟨ret_bool (by simp), ⟨_, H5.out.sub (fun b hb => .inl (.inl (.inl hb))), dl_grow M img⟩, K5.out⟩
theorem does_load (h : Tw w0 w d r M M X) (vb vp : Value) :
    Calls Try.prog 22 #[.pointer (some ⟨d, 0, none⟩), .pointer (some ⟨r, 0, none⟩), .agg #[.int .i64 6, .int .i64 xp, .int .i64 xn, vb, vp]] w fun e w' => e = .returned (.bool true) ∧ Step w0 w w' d r M X := by
  by_cases h0 : 0 ≤ xp
  · by_cases h1 : xp < M.st.flatten.length
    · obtain ⟨p, rfl⟩ : ∃ p : Nat, xp = p := ⟨xp.toNat, by omega⟩
      rcases Int.lt_trichotomy xn 0 with h2 | rfl | h2
      · exact does_load_neg h vb vp (by omega) h2
      · exact does_load_zero h vb vp (by omega)
      · rcases Int.lt_trichotomy xn (M.st.flatten.length : Int) with h3 | rfl | h3
        · obtain ⟨n, rfl⟩ : ∃ n : Nat, xn = n := ⟨xn.toNat, by omega⟩
          exact does_load_mid h vb vp (by omega) (by omega) (by omega)
        · exact does_load_eq h vb vp (by omega)
        · exact does_load_hi h vb vp (by omega) h3
    · exact does_load_outB h vb vp h0 (by omega)
  · exact does_load_outA h vb vp (by omega)
end
end Go.Proofs.Ytkcechpaeilaeaa
