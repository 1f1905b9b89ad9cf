/- said: so many at most of what an iterator over a text's lines says. -/
import Derived.Test.YtkcechpaeilaeaaGreatDoorG6
namespace Go.Proofs.YtkcechpaeilaeaaGreatDoor
open Go.RowKit
set_option linter.unusedVariables false
set_option linter.unusedSimpArgs false
set_option maxRecDepth 100000
theorem see1 {w : World} {k : Nat} {v : Value} {e : TypeId} (h : w.heap[k]? = some (.cells #[v] e (0, 0))) : w.cell? ⟨k, 0, none⟩ = some v := by rw [Lib.cell_of_heap h]; rfl
theorem Gi.left {w : World} {Bn most D : Nat} {pre : List (Nat × List UInt8)} {W : World} {v : Value} {e : Ending} (h : Gi w Bn most pre W) {wz : World} (hz : wz.heap.size = w.heap.size + 2) (hv : W.heap[w.heap.size + 1]? = some (.cells #[v] 35 (0, 0))) (hD : wz.heap.size ≤ D)
    (hd : W.heap[D]? = some (.deferred (some []))) (he : e = .returned v := by rfl) :
    (∃ v, e = .returned v ∧ Or w.heap.size 41 2 (W.putObj D (.deferred none)) v pre.length (scl pre)) ∧ Kp (· = Bn) w (W.putObj D (.deferred none)) := by
  have h2 := h.grow (grownBy_putObj' W D (.deferred none)) (fun r e => by cases e; exact ⟨by omega, _, hd, rfl⟩)
  obtain ⟨v2, hv2, ho2⟩ := h2.b5
  rw [World.putObj_heap_other (by omega), hv] at hv2
  injection hv2 with hv2
  injection hv2 with hv2
  have hvv : v = v2 := by simpa using hv2
  subst hvv
  exact ⟨⟨v, he, ho2.own, fun k hk => Nat.le_trans (by omega) (ho2.new k hk)⟩, h2.kp⟩
set_option maxHeartbeats 2000000 in
theorem said_at (s : List UInt8) (hs0 : s.length ≤ 100000) (most : Nat) (hmost0 : most ≤ 1000000000) (Bn : Nat) (w : World) (hE0 : ∃ m, w.cell? ⟨0, 0, none⟩ = some (.int .i64 m)) (hB0 : w.heap[Bn]? = some (.cells #[.string ⟨s.toArray⟩] 9 (0, 0))) :
    Calls Tryz.prog 21 #[.func (.func 63) #[] #[.pointer (some ⟨Bn, 0, none⟩)], .int .i64 (most : Int)] w fun e w' => (∃ v, e = .returned v ∧ Or w.heap.size 41 2 w' v ((saidS s).take most).length (scl ((saidS s).take most))) ∧ Kp (· = Bn) w w' := by
  have hBn : Hd (Bn < w.heap.size) := ⟨(Array.getElem?_eq_some_iff.1 hB0).1⟩
  have hE := Hd.mk hE0
  have hs := Hd.mk hs0
  have hmost := Hd.mk hmost0
  have h0n : Hd (Bn ≠ 0) := ⟨fun e => by
    subst e
    obtain ⟨m, hm⟩ := hE.out
    rw [Lib.cell_of_heap hB0] at hm
    simp at hm⟩
  have hB := Hd.mk hB0
  clear hs0 hmost0 hE0 hB0
  have hI0 : Hd (Gi w Bn most [] ((w.alloc (.cells #[.int .i64 (most : Int)] 3)).alloc (.cells #[.slice none 0 0] 35))) := ⟨by
    have n1 := _root_.Go.heap_alloc_new w (.cells #[.int .i64 (most : Int)] 3)
    have n2 := _root_.Go.heap_alloc_new (w.alloc (.cells #[.int .i64 (most : Int)] 3)) (.cells #[.slice none 0 0] 35)
    rw [size_alloc] at n2
    exact ⟨(Below.heap_alloc _ _ _ (by rw [size_alloc]; omega)).trans n1, ⟨_, n2, Or.nil _ _ _ _⟩, ((Kp.refl _ w).alloc _).alloc _, Nat.zero_le _, hBn.out⟩⟩
  have hsz : Hd (((w.alloc (.cells #[.int .i64 (most : Int)] 3)).alloc (.cells #[.slice none 0 0] 35)).heap.size = w.heap.size + 2) := ⟨by rw [size_alloc, size_alloc]⟩
  rw [← callsIn_wide (n := 2)]
  have hf63 : Fence.wide.fn 63 := trivial
  have hrun : ∀ W : World, Sem.run Tryz.prog (binOp BinOp.eql 44 (Value.func (Fn.func 63) #[] #[.pointer (some ⟨Bn, 0, none⟩)]) Value.nilFunc) W = .ok (.bool false) W := fun W => by kernel_rfl
  refine callsIn_of_wp_marks Tryz.func21 rfl trivial ?_ rfl
  simp only [Tryz.ntmps21, List.size_toArray, List.length_cons, List.length_nil, Nat.reduceAdd, Nat.reduceSub, Array.replicate_succ, Array.replicate_zero, List.push_toArray, List.append_toArray, List.nil_append, List.cons_append]
  gi_wp2
  refine range_at (gf := 63) (lb := #[.pointer (some ⟨Bn, 0, none⟩)]) rfl (enters_of Tryz.func63 (by kernel_rfl) rfl) (fun x : Nat × List UInt8 => #[.int .i64 (x.1 : Int), .string ⟨x.2.toArray⟩]) (fun _ => rfl) Bn (by rw [hsz.out]; have := hBn.out; omega)
    (Gi w Bn most) (fun c pre W => c = .exit 0 ∧ pre.length = most ∧ Gi w Bn most pre W) (fun pre A B row h hg hr => h.grow hg (fun r e => by have := hr r e; rw [hsz.out] at this; exact this)) (fun c pre A B row h hg hr => ⟨h.1, h.2.1, h.2.2.grow hg (fun r e => by have := hr r e; rw [hsz.out] at this; exact this)⟩) hI0.out
    (fun pre W n h => h.grow (grown_drewN W n) (fun r e => by cases e)) (fun pre W v h _ => h.set v) (fun pre => pre = saidS s) (fun pre => pre <+: saidS s ∧ pre ≠ saidS s)
    (fun x => { tmps := #[.func (.func 63) #[] #[.pointer (some ⟨Bn, 0, none⟩)], .int .i64 (most : Int), undef, .pointer (some ⟨w.heap.size, 0, none⟩), .slice none 0 0, .pointer (some ⟨w.heap.size + 1, 0, none⟩), .int .i64 (x.1 : Int), .string ⟨x.2.toArray⟩, .func (.func 63) #[] #[.pointer (some ⟨Bn, 0, none⟩)], .bool false, .func (.func 63) #[] #[.pointer (some ⟨Bn, 0, none⟩)], .int .i64 (x.1 : Int), .string ⟨x.2.toArray⟩, undef, undef, undef, undef, undef, undef, undef, undef, undef, undef, undef], defers := [] }) ?iter ?assign ?body ?done ?stop
  case iter =>
    intro l J Jx W hJI hJd hJc hY hWB h0
    refine (iter_at l Bn s hs.out J Jx hJd hJc (fun pre W h => ?_) hY W ?_ h0).mono ?_
    · obtain ⟨m, hm⟩ := hE.out
      exact ⟨m, (hJI pre W h).kp.see hm (fun e => h0n.out e.symm)⟩
    · rw [hWB, Below.heap_alloc _ _ _ (by rw [size_alloc]; have := hBn.out; omega), Below.heap_alloc _ _ _ hBn.out]
      exact hB.out
    · rintro e W' ⟨rfl, h | ⟨pre, h1, h2, h3⟩⟩
      · exact ⟨⟨_, rfl⟩, .inl h⟩
      · exact ⟨⟨_, rfl⟩, .inr ⟨pre, ⟨h1, h2⟩, h3⟩⟩
  case assign =>
    intro l x W K hK
    gi_wp2_with (rw [Oper.semAt_eq _ _ _ (fun c h => by cases h)]; go_simp; try go_bits)
    exact hK
  case body =>
    intro l pre x W h
    have hF : ∀ f, (Fence.wide.inRound l).fn f := fun _ => trivial
    obtain ⟨v, hv, ho⟩ := h.b5
    obtain ⟨A, c, rfl, _⟩ := ho.slice
    have d3 : W.cell? ⟨w.heap.size, 0, none⟩ = some (.int .i64 (most : Int)) := by rw [Lib.cell_of_heap h.b3]; rfl
    have d5 : W.cell? ⟨w.heap.size + 1, 0, none⟩ = some (.slice A pre.length c) := by rw [Lib.cell_of_heap hv]; rfl
    have f5 : W.frozen? ⟨w.heap.size + 1, 0, none⟩ = false := Lib.frozen_of_heap hv 0
    have h := Hd.mk h
    have hv := Hd.mk hv
    have ho := Hd.mk ho
    by_cases hlt : pre.length < most
    · have hq : Hd (decide ((most : Int) ≤ (pre.length : Int)) = false) := ⟨decide_eq_false (by omega)⟩
      have hlt := Hd.mk hlt
      have hO := Hd.mk (ho.out.keep (kp_alloc W (.cells #[.int .i64 (x.1 : Int), .string ⟨x.2.toArray⟩] 41)))
      have hwr : Hd (w.heap.size + 2 ≤ (W.alloc (.cells #[.int .i64 (x.1 : Int), .string ⟨x.2.toArray⟩] 41)).heap.size) := ⟨by
        have := (Array.getElem?_eq_some_iff.1 hv.out).1
        rw [size_alloc]; omega⟩
      have hn : Hd (pre.length ≤ 1000000000) := ⟨by have := hlt.out; have := hmost.out; omega⟩
      gi_wp2_with (first | (with_reducible refine li_run hF (fun _ h => by cases h) rfl (ex_geq _ 3 3 (.tmp 14) (.tmp 15) rfl .i64 pre.length most rfl rfl false hq.out) ?_) | (gi_at_builtin; (refine li_or2 hF rfl (.tmp 17) (.tmp 21) 35 rfl 41 2 24 Tryz.underlying35 info41b rfl (by decide) (by decide) _ _ _ rfl hO.out hwr.out W.heap.size 1 [.int .i64 (x.1 : Int), .string ⟨x.2.toArray⟩] rfl rfl (two_new _ _ _ _) (by simp [Value.oneCell']) hn.out ?_); intro v' w3 ho' hb2 hkp hnn; obtain ⟨A', c', rfl, _⟩ := ho'.slice; obtain ⟨g1, g2, g3⟩ := Gi.put h.out hv.out ho.out hlt.out ho' hkp hnn rfl; have e5 := see1 g1; have e6 : w3.frozen? ⟨w.heap.size + 1, 0, none⟩ = false := Lib.frozen_of_heap g1 0; have g2 := Hd.mk g2; have g3 := Hd.mk g3; clear ho' hb2 hkp hnn g1) | (rw [Oper.semAt_eq _ _ _ (fun c h => by cases h)]; go_simp; try go_bits))
      exact ⟨g2.out, g3.out⟩
    · have hq : Hd (decide ((most : Int) ≤ (pre.length : Int)) = true) := ⟨decide_eq_true (by omega)⟩
      have hlt := Hd.mk hlt
      gi_wp2_with (first | (with_reducible refine li_run hF (fun _ h => by cases h) rfl (ex_geq _ 3 3 (.tmp 14) (.tmp 15) rfl .i64 pre.length most rfl rfl true hq.out) ?_) | (rw [Oper.semAt_eq _ _ _ (fun c h => by cases h)]; go_simp; try go_bits))
      exact ⟨⟨KeepsOthers.refl _, rfl⟩, rfl, by have := hlt.out; have := h.out.le; omega, h.out⟩
  case done =>
    intro D xs W hD hx h hd
    have htk : Hd ((saidS s).take most = xs) := ⟨by
      subst hx
      exact List.take_of_length_le h.le⟩
    obtain ⟨v, hv, ho⟩ := h.b5
    have d5 := see1 hv
    have h1 := Hd.mk h
    have hv1 := Hd.mk hv
    clear h hv ho
    gi_wp2
    refine ⟨by simp, .inl ⟨_, _, rfl, run_takeDeferred hd, ?_⟩⟩
    exact ⟨_, results_tmp rfl _ _ _, by rw [htk.out]; exact h1.out.left hsz.out hv1.out hD hd⟩
  case stop =>
    rintro D c pre W hD ⟨hp, hne⟩ ⟨rfl, hl, h⟩ hd
    have htk : Hd ((saidS s).take most = pre) := ⟨by rw [← hl]; exact (List.prefix_iff_eq_take.1 hp).symm⟩
    clear hp hne hl
    obtain ⟨v, hv, ho⟩ := h.b5
    have d5 := see1 hv
    have h1 := Hd.mk h
    have hv1 := Hd.mk hv
    clear h hv ho
    gi_wp2
    refine ⟨by simp, .inl ⟨_, _, rfl, run_takeDeferred hd, ?_⟩⟩
    exact ⟨_, results_tmp rfl _ _ _, by rw [htk.out]; exact h1.out.left hsz.out hv1.out hD hd⟩
end Go.Proofs.YtkcechpaeilaeaaGreatDoor
