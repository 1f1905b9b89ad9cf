/- few. -/
import Derived.Test.YtkcechpaeilaeaaL4
namespace Go.Proofs.Ytkcechpaeilaeaa
open Go.RowKit
set_option linter.unusedVariables false
set_option linter.unusedSimpArgs false

/-- An act. -/
structure OpM where
  act : Int
  p : Int
  n : Int
  b : List Int
  pick : List Int
/-- Five cells that read as an act. -/
def OpAt (w : World) (b o : Nat) (x : OpM) : Prop := ∃ vb vp, w.rangeAt b o [.int .i64 x.act, .int .i64 x.p, .int .i64 x.n, vb, vp] ∧ Bs w vb x.b ∧ Bs w vp x.pick ∧ Bytes x.b ∧ Bytes x.pick
/-- A slice reads as acts. -/
def Os (w : World) (v : Value) (l : List OpM) : Prop := ∃ A c, v = .slice A l.length c ∧ l.length ≤ c ∧ (l = [] ∨ ∃ b o, A = some ⟨b, o, none⟩ ∧ ∀ i x, l[i]? = some x → OpAt w b (o + i * 5) x)
/-- All blocks that were there are as they were. -/
abbrev Old (w w' : World) : Prop := Kp (fun _ => False) w w'
theorem Bs.old {w w' : World} {v : Value} {l : List Int} (h : Bs w v l) (k : Old w w') : Bs w' v l := h.keep (fun b hb _ => k.block b hb id)
theorem OpAt.old {w w' : World} {b o : Nat} {x : OpM} (h : OpAt w b o x) (k : Old w w') : OpAt w' b o x := by
  obtain ⟨vb, vp, h1, h2, h3, h4⟩ := h
  exact ⟨vb, vp, rangeAt_keep h1 (k.block b (rangeAt_lt h1 (by simp)) id), h2.old k, h3.old k, h4⟩
theorem Os.old {w w' : World} {v : Value} {l : List OpM} (h : Os w v l) (k : Old w w') : Os w' v l := by
  obtain ⟨A, c, rfl, hc, h⟩ := h
  refine ⟨A, c, rfl, hc, ?_⟩
  rcases h with h | ⟨b, o, rfl, h⟩
  · exact .inl h
  · exact .inr ⟨b, o, rfl, fun i x hx => (h i x hx).old k⟩
theorem Os.take {w : World} {A : Option Addr} {c n : Nat} {l : List OpM} (h : Os w (.slice A l.length c) l) (n : Nat) : Os w (.slice A (l.take n).length c) (l.take n) := by
  obtain ⟨A', c', e, hc, h⟩ := h
  injection e with e1 e2 e3
  subst e1 e3
  refine ⟨A, c, rfl, by rw [List.length_take]; omega, ?_⟩
  rcases h with rfl | ⟨b, o, rfl, h⟩
  · exact .inl (by simp)
  · exact .inr ⟨b, o, rfl, fun i x hx => by
      rw [List.getElem?_take] at hx
      split at hx
      · exact h i x hx
      · cases hx⟩
def fitsB (x : OpM) : Bool := decide (x.b.length ≤ 300) && decide (x.pick.length ≤ 100)
def fewB (l : List OpM) : Bool := (l.take 50).all fitsB
def fewR (A : Option Addr) (c : Nat) (l : List OpM) : Value := if fewB l then .tuple #[.slice A (l.take 50).length c, .bool true] else .tuple #[.slice none 0 0, .bool false]
theorem fewR_no (A : Option Addr) (c : Nat) (l : List OpM) (h : fewB l = false) : Value.tuple #[.slice none 0 0, .bool false] = fewR A c l := by unfold fewR; rw [h]; rfl
theorem fewR_yes (A : Option Addr) (c : Nat) (l : List OpM) (h : fewB l = true) (n : Nat) (hn : (l.take 50).length = n) : Value.tuple #[.slice A n c, .bool true] = fewR A c l := by unfold fewR; rw [h, ← hn]; rfl
def Z5 : List Value := [.int .i64 0, .int .i64 0, .int .i64 0, .slice none 0 0, .slice none 0 0]
theorem zero34 (w : World) : (zeroValue 34).run Try.prog w = .ok (.agg Z5.toArray) w := by kernel_rfl
theorem info34 : (Try.prog.info? 34).map (·.size) = some 5 := by kernel_rfl

set_option maxRecDepth 20000 in
set_option maxHeartbeats 2000000 in
theorem few_at {w : World} {A : Option Addr} {c : Nat} {l : List OpM} (h : Os w (.slice A l.length c) l) : Calls Try.prog 8 #[.slice A l.length c] w fun e w' =>
    e = .returned (fewR A c l) ∧ Old w w' := by
  have Ht := Hd.mk (h.take (n := 0) 50)
  have H := Hd.mk h
  obtain ⟨A', c', e, hc, hr⟩ := h
  injection e with e1 e2 e3
  subst e1 e3
  clear e2
  have hm : (l.take 50).length = min l.length 50 := by rw [List.length_take, Nat.min_comm]
  have hcI : (l.length : Int) ≤ (c : Int) := by omega
  clear hr hc
  go_enter Try.func8, Try.ntmps8
  go_wp2_with fail
  case inr =>
    have hm : (l.take 50).length = l.length := by rw [hm]; omega
    go_loopw [13] (fun v13 wr => ∃ k : Nat, v13 = .int .i64 k ∧ k ≤ l.length ∧ ((l.take 50).take k).all fitsB = true ∧ Hd (Old w wr)) (fun v13 _ => l.length - (intOf v13).toNat)
    case atStart => exact ⟨0, rfl, Nat.zero_le _, rfl, ⟨Kp.refl _ _⟩⟩
    case round =>
      obtain ⟨k, rfl, hk, hall, HK⟩ := hrel
      by_cases hlt : k < l.length
      · have hltI : (k : Int) < (l.length : Int) := by omega
        have hkb : (k : Int) < 50 := by omega
        have hkl : k < (l.take 50).length := by omega
        have Hlt := Hd.mk hlt
        obtain ⟨A', c', e, -, hr⟩ := Ht.out.old HK.out
        injection e with e1 e2 e3
        subst e1 e3
        clear e2
        rcases hr with h0 | ⟨b, o, rfl, hr⟩
        · rw [h0] at hkl; simp at hkl
        obtain ⟨vb, vp, hrg, hbb, hbp, -, -⟩ := hr k _ (List.getElem?_eq_getElem hkl)
        have htk : (l.take 50).take (k + 1) = (l.take 50).take k ++ [(l.take 50)[k]] := List.take_succ_eq_append_getElem hkl
        have hnext : (((l.take 50).take (k + 1)).all fitsB) = fitsB (l.take 50)[k] := by rw [htk, List.all_append, hall]; simp
        have hfew : fitsB (l.take 50)[k] = false → fewB l = false := fun h => by
          unfold fewB
          rw [Bool.eq_false_iff]
          intro h2
          rw [List.all_eq_true.1 h2 _ (List.getElem_mem hkl)] at h
          cases h
        generalize (l.take 50)[k] = x at *
        obtain ⟨Ab, cb, rfl, hcb, -⟩ := hbb
        obtain ⟨Ap, cp, rfl, hcp, -⟩ := hbp
        have Hrg := Hd.mk hrg
        have Hnext := Hd.mk hnext
        have Hfew := Hd.mk hfew
        clear hrg hnext hfew hlt hk hkl hr htk hall hcb hcp
        have hone : Hd (∀ v ∈ [Value.int .i64 x.act, .int .i64 x.p, .int .i64 x.n, .slice Ab x.b.length cb, .slice Ap x.pick.length cp], v.oneCell' = true) := ⟨by intro v hv; simp at hv; rcases hv with rfl | rfl | rfl | rfl | rfl <;> rfl⟩
        have hi34 : Hd ((Try.prog.info? 34).map (·.size) = some ([Value.int .i64 x.act, .int .i64 x.p, .int .i64 x.n, .slice Ab x.b.length cb, .slice Ap x.pick.length cp] : List Value).length) := ⟨info34⟩
        have hz34 : Hd (Z5.length = ([Value.int .i64 x.act, .int .i64 x.p, .int .i64 x.n, .slice Ab x.b.length cb, .slice Ap x.pick.length cp] : List Value).length) := ⟨rfl⟩
        by_cases h1 : x.b.length ≤ 300
        · have h1I : (x.b.length : Int) ≤ 300 := by omega
          have h1B : decide ((300 : Int) < (x.b.length : Int)) = false := by simp; omega
          by_cases h2 : x.pick.length ≤ 100
          · have h2I : (x.pick.length : Int) ≤ 100 := by omega
            have h2B : decide ((100 : Int) < (x.pick.length : Int)) = false := by simp; omega
            have hf : Hd (fitsB x = true) := ⟨by simp [fitsB, h1, h2]⟩
            clear h1 h2
            go_wp2_with (first
              | (with_reducible refine wl_load_mid rfl 34 _ rfl b (o + k * 5) rfl _ Hrg.out Try.underlying34 rfl hi34.out ?_)
              | (with_reducible refine wl_alloc rfl 34 rfl Z5 (zero34 _) ?_)
              | (with_reducible refine wl_store_new rfl 34 _ _ rfl Z5 [.int .i64 x.act, .int .i64 x.p, .int .i64 x.n, .slice Ab x.b.length cb, .slice Ap x.pick.length cp] rfl rfl hi34.out hz34.out hone.out ?_))
            exact ⟨⟨k + 1, by go_num, Hlt.out, by rw [Hnext.out]; exact hf.out, ⟨HK.out.alloc _⟩⟩, by have := Hlt.out; simp [intOf]; omega⟩
          · have h2I : (100 : Int) < (x.pick.length : Int) := by omega
            have hf : Hd (fitsB x = false) := ⟨by simp [fitsB, h2]⟩
            have hfw := Hd.mk (Hfew.out hf.out)
            clear h1 h2
            go_wp2_with (first
              | (with_reducible refine wl_load_mid rfl 34 _ rfl b (o + k * 5) rfl _ Hrg.out Try.underlying34 rfl hi34.out ?_)
              | (with_reducible refine wl_alloc rfl 34 rfl Z5 (zero34 _) ?_)
              | (with_reducible refine wl_store_new rfl 34 _ _ rfl Z5 [.int .i64 x.act, .int .i64 x.p, .int .i64 x.n, .slice Ab x.b.length cb, .slice Ap x.pick.length cp] rfl rfl hi34.out hz34.out hone.out ?_))
            go_ret2
            exact ⟨congrArg Ending.returned (fewR_no _ _ _ hfw.out), HK.out.alloc _⟩
        · have h1I : (300 : Int) < (x.b.length : Int) := by omega
          have hf : Hd (fitsB x = false) := ⟨by simp [fitsB, h1]⟩
          have hfw := Hd.mk (Hfew.out hf.out)
          clear h1
          go_wp2_with (first
            | (with_reducible refine wl_load_mid rfl 34 _ rfl b (o + k * 5) rfl _ Hrg.out Try.underlying34 rfl hi34.out ?_)
            | (with_reducible refine wl_alloc rfl 34 rfl Z5 (zero34 _) ?_)
            | (with_reducible refine wl_store_new rfl 34 _ _ rfl Z5 [.int .i64 x.act, .int .i64 x.p, .int .i64 x.n, .slice Ab x.b.length cb, .slice Ap x.pick.length cp] rfl rfl hi34.out hz34.out hone.out ?_))
          go_ret2
          exact ⟨congrArg Ending.returned (fewR_no _ _ _ hfw.out), HK.out.alloc _⟩
      · have e : k = l.length := by omega
        subst e
        have hfw : Hd (fewB l = true) := ⟨by rw [List.take_of_length_le (by omega)] at hall; exact hall⟩
        have hml := Hd.mk hm
        clear hlt hk hall
        go_wp2_with fail
        go_ret2
        exact ⟨congrArg Ending.returned (fewR_yes _ _ _ hfw.out _ hml.out), HK.out⟩
  case inl =>
    have hm : (l.take 50).length = 50 := by rw [hm]; omega
    go_loopw [13] (fun v13 wr => ∃ k : Nat, v13 = .int .i64 k ∧ k ≤ 50 ∧ ((l.take 50).take k).all fitsB = true ∧ Hd (Old w wr)) (fun v13 _ => 50 - (intOf v13).toNat)
    case atStart => exact ⟨0, rfl, Nat.zero_le _, rfl, ⟨Kp.refl _ _⟩⟩
    case round =>
      obtain ⟨k, rfl, hk, hall, HK⟩ := hrel
      by_cases hlt : k < 50
      · have hltI : (k : Int) < 50 := by omega
        have hkb : (k : Int) < 50 := by omega
        have hkl : k < (l.take 50).length := by omega
        have Hlt := Hd.mk hlt
        obtain ⟨A', c', e, -, hr⟩ := Ht.out.old HK.out
        injection e with e1 e2 e3
        subst e1 e3
        clear e2
        rcases hr with h0 | ⟨b, o, rfl, hr⟩
        · rw [h0] at hkl; simp at hkl
        obtain ⟨vb, vp, hrg, hbb, hbp, -, -⟩ := hr k _ (List.getElem?_eq_getElem hkl)
        have htk : (l.take 50).take (k + 1) = (l.take 50).take k ++ [(l.take 50)[k]] := List.take_succ_eq_append_getElem hkl
        have hnext : (((l.take 50).take (k + 1)).all fitsB) = fitsB (l.take 50)[k] := by rw [htk, List.all_append, hall]; simp
        have hfew : fitsB (l.take 50)[k] = false → fewB l = false := fun h => by
          unfold fewB
          rw [Bool.eq_false_iff]
          intro h2
          rw [List.all_eq_true.1 h2 _ (List.getElem_mem hkl)] at h
          cases h
        generalize (l.take 50)[k] = x at *
        obtain ⟨Ab, cb, rfl, hcb, -⟩ := hbb
        obtain ⟨Ap, cp, rfl, hcp, -⟩ := hbp
        have Hrg := Hd.mk hrg
        have Hnext := Hd.mk hnext
        have Hfew := Hd.mk hfew
        clear hrg hnext hfew hlt hk hkl hr htk hall hcb hcp
        have hone : Hd (∀ v ∈ [Value.int .i64 x.act, .int .i64 x.p, .int .i64 x.n, .slice Ab x.b.length cb, .slice Ap x.pick.length cp], v.oneCell' = true) := ⟨by intro v hv; simp at hv; rcases hv with rfl | rfl | rfl | rfl | rfl <;> rfl⟩
        have hi34 : Hd ((Try.prog.info? 34).map (·.size) = some ([Value.int .i64 x.act, .int .i64 x.p, .int .i64 x.n, .slice Ab x.b.length cb, .slice Ap x.pick.length cp] : List Value).length) := ⟨info34⟩
        have hz34 : Hd (Z5.length = ([Value.int .i64 x.act, .int .i64 x.p, .int .i64 x.n, .slice Ab x.b.length cb, .slice Ap x.pick.length cp] : List Value).length) := ⟨rfl⟩
        by_cases h1 : x.b.length ≤ 300
        · have h1I : (x.b.length : Int) ≤ 300 := by omega
          have h1B : decide ((300 : Int) < (x.b.length : Int)) = false := by simp; omega
          by_cases h2 : x.pick.length ≤ 100
          · have h2I : (x.pick.length : Int) ≤ 100 := by omega
            have h2B : decide ((100 : Int) < (x.pick.length : Int)) = false := by simp; omega
            have hf : Hd (fitsB x = true) := ⟨by simp [fitsB, h1, h2]⟩
            clear h1 h2
            go_wp2_with (first
              | (with_reducible refine wl_load_mid rfl 34 _ rfl b (o + k * 5) rfl _ Hrg.out Try.underlying34 rfl hi34.out ?_)
              | (with_reducible refine wl_alloc rfl 34 rfl Z5 (zero34 _) ?_)
              | (with_reducible refine wl_store_new rfl 34 _ _ rfl Z5 [.int .i64 x.act, .int .i64 x.p, .int .i64 x.n, .slice Ab x.b.length cb, .slice Ap x.pick.length cp] rfl rfl hi34.out hz34.out hone.out ?_))
            exact ⟨⟨k + 1, by go_num, Hlt.out, by rw [Hnext.out]; exact hf.out, ⟨HK.out.alloc _⟩⟩, by have := Hlt.out; simp [intOf]; omega⟩
          · have h2I : (100 : Int) < (x.pick.length : Int) := by omega
            have hf : Hd (fitsB x = false) := ⟨by simp [fitsB, h2]⟩
            have hfw := Hd.mk (Hfew.out hf.out)
            clear h1 h2
            go_wp2_with (first
              | (with_reducible refine wl_load_mid rfl 34 _ rfl b (o + k * 5) rfl _ Hrg.out Try.underlying34 rfl hi34.out ?_)
              | (with_reducible refine wl_alloc rfl 34 rfl Z5 (zero34 _) ?_)
              | (with_reducible refine wl_store_new rfl 34 _ _ rfl Z5 [.int .i64 x.act, .int .i64 x.p, .int .i64 x.n, .slice Ab x.b.length cb, .slice Ap x.pick.length cp] rfl rfl hi34.out hz34.out hone.out ?_))
            go_ret2
            exact ⟨congrArg Ending.returned (fewR_no _ _ _ hfw.out), HK.out.alloc _⟩
        · have h1I : (300 : Int) < (x.b.length : Int) := by omega
          have hf : Hd (fitsB x = false) := ⟨by simp [fitsB, h1]⟩
          have hfw := Hd.mk (Hfew.out hf.out)
          clear h1
          go_wp2_with (first
            | (with_reducible refine wl_load_mid rfl 34 _ rfl b (o + k * 5) rfl _ Hrg.out Try.underlying34 rfl hi34.out ?_)
            | (with_reducible refine wl_alloc rfl 34 rfl Z5 (zero34 _) ?_)
            | (with_reducible refine wl_store_new rfl 34 _ _ rfl Z5 [.int .i64 x.act, .int .i64 x.p, .int .i64 x.n, .slice Ab x.b.length cb, .slice Ap x.pick.length cp] rfl rfl hi34.out hz34.out hone.out ?_))
          go_ret2
          exact ⟨congrArg Ending.returned (fewR_no _ _ _ hfw.out), HK.out.alloc _⟩
      · have e : k = 50 := by omega
        subst e
        have hfw : Hd (fewB l = true) := ⟨by rw [List.take_of_length_le (by omega)] at hall; exact hall⟩
        have hml := Hd.mk hm
        clear hlt hk hall
        go_wp2_with fail
        go_ret2
        exact ⟨congrArg Ending.returned (fewR_yes _ _ _ hfw.out _ hml.out), HK.out⟩
end Go.Proofs.Ytkcechpaeilaeaa
