/- Joined out of: R13. -/
import Derived.Test.YtkcechpaeilaeaaGreatDoorK29
import Derived.Test.YtkcechpaeilaeaaGreatDoorK30
set_option linter.unusedVariables false
set_option linter.unusedSimpArgs false
namespace Go.Proofs.YtkcechpaeilaeaaGreatDoor
open Go.RowKit
set_option maxRecDepth 100000
set_option maxHeartbeats 4000000 in
theorem parse_short (t : List UInt8) (ht0 : t.length ≤ 65536) {w : World} (hE0 : Ev w) : Calls Tryz.prog 30 #[.string ⟨t.toArray⟩] w fun e w' => PaR t w w' e := by
 have hI : (t.length : Int) ≤ 65536 := by omega
 have ht := Hd.mk ht0
 have hE := Hd.mk hE0
 clear ht0 hE0
 rw [← callsIn_wide (n := 2)]
 refine callsIn_of_wp_marks Tryz.func30 rfl trivial ?_ rfl
 simp only [Tryz.ntmps30, List.size_toArray, List.length_cons, List.length_nil, Nat.reduceAdd, Nat.reduceSub, Array.replicate_succ, Array.replicate_zero, List.push_toArray, List.append_toArray, List.nil_append, List.cons_append]
 have hl : Hd (∀ u : World, u = ((((w.alloc (.cells #[.int .i64 0, .int .i64 0, .slice none 0 0, .slice none 0 0, .int .i64 0, .slice none 0 0] 53)).alloc (.cells #[.int .i64 0] 3)).alloc (.cells #[.int .i64 0] 26)).alloc
   (.cells #[.int .i64 8, .int .i64 2, .slice none 0 0, .slice none 0 0, .int .i64 1, .slice none 0 0, .int .i64 0] 108)).alloc (.cells #[.pointer (some ⟨w.heap.size + 1 + 1 + 1, 0, none⟩)] 106) →
   Calls Tryz.prog 22 #[.string ⟨t.toArray⟩] u fun e w' => e = .returned (.func (.func 63) #[] #[.pointer (some ⟨w.heap.size + 5, 0, none⟩)]) ∧ Pi w.heap.size w [] w' ∧ w'.heap[w.heap.size + 5]? = some (.cells #[.string ⟨t.toArray⟩] 9 (0, 0))) := ⟨fun u hu => by
  refine (lines_at t u).mono ?_
  rintro e w' ⟨rfl, rfl⟩
  obtain ⟨h1, h2⟩ := pi0 t w u hu
  exact ⟨by rw [hu]; simp only [size_alloc], h1, h2⟩⟩
 have hf22 : Fence.wide.fn 22 := trivial
 gi_wp2_with (gi_at_call 22; refine (callsIn_wide.2 (hl.out _ rfl)).mono ?_; rintro e w1 ⟨rfl, hI0, hBn0⟩; replace hI0 := Hd.mk hI0; replace hBn0 := Hd.mk hBn0; clear hl)
 have hle : Hd (w.heap.size + 6 ≤ w1.heap.size) := ⟨hI0.out.le⟩
 have h0n : Hd (w.heap.size ≠ 0) := ⟨by
  obtain ⟨m, hm⟩ := hE.out.ml
  have := World.block_lt_of_cell? w _ hm
  simp at this
  omega⟩
 refine range_atR (gf := 63) (lb := #[.pointer (some ⟨w.heap.size + 5, 0, none⟩)]) rfl (enters_of Tryz.func63 (by kernel_rfl) rfl) (fun x : Nat × List UInt8 => #[.int .i64 (x.1 : Int), .string ⟨x.2.toArray⟩]) (fun _ => rfl) (w.heap.size + 5) (by have := hle.out; omega)
  (Pi w.heap.size w) (fun c pre W => c = .ret ∧ Px w.heap.size w t pre W) (fun pre A B row h hg hr => h.grow hg (fun r e => by have := hr r e; have := hle.out; exact ⟨by omega, (hr r e).2⟩)) (fun c pre A B row h hg hr => ⟨h.1, h.2.grow hg (fun r e => by have := hr r e; have := hle.out; exact ⟨by omega, (hr r e).2⟩)⟩) hI0.out
  (fun pre W n h => h.grow (grown_drewN W n) (fun r e => by cases e)) (fun pre W v h hu => h.set v hu) (fun pre => pre = saidS t) (fun pre => pre <+: saidS t ∧ pre ≠ saidS t) (fun pre x => pre ++ [x] <+: saidS t)
  (fun x => { tmps := #[.string ⟨t.toArray⟩, undef, .pointer (some ⟨w.heap.size, 0, none⟩), .pointer (some ⟨w.heap.size + 1, 0, none⟩), .pointer (some ⟨w.heap.size + 1 + 1, 0, none⟩), .pointer (some ⟨w.heap.size + 1 + 1 + 1 + 1, 0, none⟩), .int .i64 (x.1 : Int), .string ⟨x.2.toArray⟩, undef, .string ⟨t.toArray⟩, .int .i64 (t.length : Int), .bool (decide (65536 < (t.length : Int))), undef, .agg #[.slice none 0 0, .slice none 0 0, .int .i64 1], .agg #[.int .i64 8, .int .i64 2, .slice none 0 0, .slice none 0 0, .int .i64 1, .slice none 0 0], .agg #[.int .i64 8, .int .i64 2, .slice none 0 0, .slice none 0 0, .int .i64 1, .slice none 0 0, .int .i64 0], .pointer (some ⟨w.heap.size + 1 + 1 + 1, 0, none⟩), .string ⟨t.toArray⟩, .func (.func 63) #[] #[.pointer (some ⟨w.heap.size + 5, 0, none⟩)], .int .i64 (x.1 : Int), .string ⟨x.2.toArray⟩, undef, undef, undef, undef, undef, undef, undef, undef, undef, undef, undef, undef, undef, undef, undef, undef, undef, undef, undef, undef, undef, undef, undef, undef, undef, undef, undef, undef, undef, undef, undef, undef, undef, undef, undef, undef, undef, undef, undef, undef], defers := [] }) ?iter ?assign ?body ?done ?stop
 case iter =>
  intro l J Jx W hJI hJd hJc hY hWB h0
  refine (iter_at l (w.heap.size + 5) t (by have := ht.out; omega) J Jx hJd hJc (fun pre W h => ?_) hY W (by rw [hWB]; exact hBn0.out) h0).mono ?_
  ·obtain ⟨m, hm⟩ := hE.out.ml
   exact ⟨m, (hJI pre W h).kp.see hm id⟩
  ·rintro e W' ⟨rfl, h | ⟨pre, h1, h2, h3⟩⟩
   ·exact ⟨⟨_, rfl⟩, .inl h⟩
   ·exact ⟨⟨_, rfl⟩, .inr ⟨pre, ⟨h1, h2⟩, h3⟩⟩
 case assign =>
  intro l x W K hK
  gi_wp2_with (rw [Oper.semAt_eq _ _ _ (fun c h => by cases h)]; go_simp; try go_bits)
  exact hK
 case body =>
  intro l pre x W hnx h
  have hF : ∀ f, (Fence.wide.inRound l).fn f := fun _ => trivial
  have hf75 : (Fence.wide.inRound l).fn 75 := trivial
  have hf26 : (Fence.wide.inRound l).fn 26 := trivial
  have hdp : Fence.wide.depth = none := rfl
  have d5 : W.cell? ⟨w.heap.size + 1 + 1 + 1 + 1, 0, none⟩ = some (.pointer (some ⟨w.heap.size + 1 + 1 + 1, 0, none⟩)) := h.p5.cell 0
  have htk := Hd.mk (take_step (x := x) h hE.out (by have := said_le hnx; have := ht.out; omega))
  have hnx := Hd.mk hnx
  clear h
  gi_wp2_with (first | (gi_at_call 75; refine (CallsIn.inRound l (callsIn_wide.2 htk.out)).mono ?_; rintro e W1 ⟨q, rfl, hpb, hno, hyes⟩; replace hpb := Hd.mk hpb; have d6 : W1.cell? ⟨w.heap.size + 1 + 1 + 1 + 1, 0, none⟩ = some (.pointer (some ⟨w.heap.size + 1 + 1 + 1, 0, none⟩)) := hpb.out.p5.cell 0; clear htk; clear d5; cases q; (obtain ⟨s, hp, hn⟩ := hno rfl); (clear hno hyes); (have hput := Hd.mk (fun W2 (g : Pb w.heap.size w W W2) => g.put hnx.out hp hn)); (clear hp hn); dsimp only; rotate_left; (obtain ⟨s, s1, F, S, X, cF, cS, cA, cs, hp, h1, hsm, hr, hsc⟩ := hyes rfl); (clear hno hyes); (have hck := Hd.mk (scheck_at s1 hsm hsc)); (have hrg := Hd.mk (hr.blk.range 0 6)); (have hok := Hd.mk (fun W2 (k : KZ W1 W2) (hs : scOk s1) => (hpb.out.keep k).next hp ⟨h1, hs⟩ (hr.keep k))); (have hput := Hd.mk (fun (hno : ¬ scOk s1) W2 (g : Pb w.heap.size w W W2) => g.put hnx.out hp (h1.no hno))); (clear hp h1 hsm hr hsc); dsimp only; rotate_left) | (refine li_z53 hF (fun _ h => by cases h) rfl rfl rfl rfl hpb.out ?_; intro w2 hpb2; have d3 : w2.cell? ⟨w.heap.size + 1, 0, none⟩ = some (.int .i64 0) := hpb2.z3.cell 0; have d4 : w2.cell? ⟨w.heap.size + 1 + 1, 0, none⟩ = some (.int .i64 0) := hpb2.z4.cell 0; have f3 : w2.frozen? ⟨w.heap.size + 1, 0, none⟩ = false := hpb2.z3.free 0; have f4 : w2.frozen? ⟨w.heap.size + 1 + 1, 0, none⟩ = false := hpb2.z4.free 0; replace hpb2 := Hd.mk hpb2) | ((refine li_runG hF (fun _ h => by cases h) rfl (ex_load_mid W1 53 (.tmp 28) rfl (w.heap.size + 1 + 1 + 1) 0 rfl [.int .i64 s1.pages, .int .i64 s1.cache, .slice F s1.fl.length cF, .slice S s1.ss.length cS, .int .i64 s1.cap, .slice X s1.ac.length cA] hrg.out Tryz.underlying53 rfl (by kernel_rfl)) ?_)) | (gi_at_call 26; refine (CallsIn.inRound l (callsIn_wide.2 hck.out)).mono ?_; rintro e W3 ⟨⟨rfl, hs⟩ | ⟨rfl, hs⟩, hk3⟩; (replace hpb := Hd.mk (hpb.out.keep hk3)); (replace hs := Hd.mk hs); (replace hk3 := Hd.mk hk3); dsimp only; rotate_left; (replace hpb := Hd.mk (hpb.out.keep hk3)); (replace hs := Hd.mk hs); (replace hk3 := Hd.mk hk3); dsimp only; rotate_left) | (rw [Oper.semAt_eq _ _ _ (fun c h => by cases h)]; go_simp; try go_bits))
  all_goals first | exact ⟨(hput.out _ hpb2.out).1, rfl, (hput.out _ hpb2.out).2⟩ | exact ⟨(hput.out hs.out _ hpb2.out).1, rfl, (hput.out hs.out _ hpb2.out).2⟩ | exact ⟨⟨hpb.out.oth, hpb.out.bn⟩, hok.out _ hk3.out hs.out⟩
 case done =>
  intro D xs W hD hx h hd
  subst hx
  have hD6 : Hd (w.heap.size + 6 ≤ D) := ⟨by have := hle.out; omega⟩
  obtain ⟨s, VF, VS, VA, cs, hR, hP⟩ := h.rd
  obtain ⟨F, S, X, cF, cS, cA, rfl, rfl, rfl, hsc⟩ := hR.scr
  have d5 : W.cell? ⟨w.heap.size + 1 + 1 + 1 + 1, 0, none⟩ = some (.pointer (some ⟨w.heap.size + 1 + 1 + 1, 0, none⟩)) := h.p5.cell 0
  have d6 : W.cell? ⟨w.heap.size + 1 + 1 + 1, 6, none⟩ = some (.int .i64 (stg (saidS t).length s)) := hR.c6
  have hpb := Hd.mk (h.bo (Bo.refl _ _ W))
  have hd := Hd.mk hd
  by_cases h3 : (saidS t).length < 3
  ·obtain ⟨st, hst⟩ : ∃ st : Int, stg (saidS t).length s = st := ⟨_, rfl⟩
   have hlt : st < 3 := by rw [← hst]; unfold stg; rw [if_pos h3]; omega
   rw [hst] at d6
   have hout : Hd (∀ n : Int, n = ((lnGo [] t).length : Int) + 1 → POut t (saidS t) (lnGo [] t).length z0 n 270) := ⟨fun n hn => .inr ⟨by have := ht.out; omega, .inr (.inl ⟨s, hP, h3, rfl, hn, rfl⟩)⟩⟩
   have hlc := lnGo_count t []
   obtain ⟨N, hN⟩ : ∃ N, (lnGo [] t).length = N := ⟨_, rfl⟩
   replace hout : Hd (∀ n : Int, n = (N : Int) + 1 → POut t (saidS t) (lnGo [] t).length z0 n 270) := ⟨by rw [← hN]; exact hout.out⟩
   rw [hN] at hlc
   obtain ⟨c, hc⟩ : ∃ c : Nat, t.count 10 = c := ⟨_, rfl⟩
   have hcb : (c : Int) ≤ 70000 := by have := List.count_le_length (a := (10 : UInt8)) (l := t); have := ht.out; omega
   have hcnt : Hd (Calls Tryz.prog 76 #[.string ⟨t.toArray⟩, .string ⟨#[10]⟩] W fun e w' => e = .returned (.int .i64 (c : Int)) ∧ w' = W) := ⟨by
    have := Tryz.strings_Count_one ⟨t.toArray⟩ 10 W
    simp only [Lib.countByte] at this
    rw [← hc]
    exact this⟩
   rw [hc] at hlc
   have hf76 : Fence.wide.fn 76 := trivial
   clear h hR hP hsc hst h3 hN hc
   have hFw : ∀ f, Fence.wide.fn f := fun _ => trivial
   rcases List.eq_nil_or_concat t with he | ⟨t1, u, he⟩
   ·have hb : Hd ((t != []) = false) := ⟨by simp [he]⟩
    have hNc : Hd ((c : Int) + 1 = (N : Int) + 1) := ⟨by simp [he] at hlc; omega⟩
    replace he := Hd.mk he
    clear hlc
    gi_wp2_with (first | (gi_at_call 76; refine (callsIn_wide.2 hcnt.out).mono ?_; rintro e W1 ⟨rfl, rfl⟩; dsimp only) | (refine li_z53 hFw (fun _ h => by cases h) rfl rfl rfl rfl hpb.out ?_; intro w2 hpb2; have d3 : w2.cell? ⟨w.heap.size + 1, 0, none⟩ = some (.int .i64 0) := hpb2.z3.cell 0; have d4 : w2.cell? ⟨w.heap.size + 1 + 1, 0, none⟩ = some (.int .i64 0) := hpb2.z4.cell 0; have f3 : w2.frozen? ⟨w.heap.size + 1, 0, none⟩ = false := hpb2.z3.free 0; have f4 : w2.frozen? ⟨w.heap.size + 1 + 1, 0, none⟩ = false := hpb2.z4.free 0; replace hpb2 := Hd.mk hpb2) | ((with_reducible refine li_run hFw (fun _ h => by cases h) rfl (ex_sneq _ 9 9 (.tmp 42) (.const (.string ⟨#[]⟩)) rfl t [] false hb.out rfl rfl) ?_)))
    ·obtain ⟨g1, g2, g3, g4, g5⟩ := hpb2.out.left hD6.out hd.out ((c : Int) + 1) 270
     refine ⟨by simp, .inl ⟨_, _, rfl, run_takeDeferred g1, ?_⟩⟩
     exact ⟨_, results_3 rfl _ _ w.heap.size (w.heap.size + 1) (w.heap.size + 1 + 1) Z6 _ _ rfl rfl rfl g2 rfl g3 g4, ⟨z0, none, none, none, 0, 0, 0, ((c : Int) + 1), 270, rfl, scr_z0 _, hout.out _ hNc.out⟩, g5⟩
   ·have hne : Hd (t ≠ []) := ⟨by simp [he]⟩
    have hb : Hd ((t != []) = true) := ⟨by simpa using hne.out⟩
    have hu : Hd (t[t.length - 1]? = some u) := ⟨by rw [he]; simp⟩
    have hz : Hd ((t.length : Int) - 1 = ((t.length - 1 : Nat) : Int)) := ⟨by
     have : t.length ≠ 0 := fun e => hne.out (List.eq_nil_of_length_eq_zero e)
     omega⟩
    have h1 : (1 : Int) ≤ (t.length : Int) := by
     have : t.length ≠ 0 := fun e => hne.out (List.eq_nil_of_length_eq_zero e)
     omega
    have hgl : t.getLast? = some u := by rw [he]; simp
    rw [hgl] at hlc
    simp only [List.nil_append, hne.out, false_or, false_and, Option.some.injEq] at hlc
    replace he := Hd.mk he
    clear hgl
    by_cases h10 : u = 10
    ·have hq : Hd (decide ((u.toNat : Int) ≠ 10) = false) := ⟨by subst h10; decide⟩
     have hNc : Hd ((c : Int) + 1 = (N : Int) + 1) := ⟨by rw [if_pos h10] at hlc; omega⟩
     replace h10 := Hd.mk h10
     clear hlc
     gi_wp2_with (first | (gi_at_call 76; refine (callsIn_wide.2 hcnt.out).mono ?_; rintro e W1 ⟨rfl, rfl⟩; dsimp only) | (refine li_z53 hFw (fun _ h => by cases h) rfl rfl rfl rfl hpb.out ?_; intro w2 hpb2; have d3 : w2.cell? ⟨w.heap.size + 1, 0, none⟩ = some (.int .i64 0) := hpb2.z3.cell 0; have d4 : w2.cell? ⟨w.heap.size + 1 + 1, 0, none⟩ = some (.int .i64 0) := hpb2.z4.cell 0; have f3 : w2.frozen? ⟨w.heap.size + 1, 0, none⟩ = false := hpb2.z3.free 0; have f4 : w2.frozen? ⟨w.heap.size + 1 + 1, 0, none⟩ = false := hpb2.z4.free 0; replace hpb2 := Hd.mk hpb2) | ((with_reducible refine li_run hFw (fun _ h => by cases h) rfl (ex_sneq _ 9 9 (.tmp 42) (.const (.string ⟨#[]⟩)) rfl t [] true hb.out rfl rfl) ?_)) | ((with_reducible refine li_runG ?hF ?hd ?hw (ex_sidx _ 9 (.tmp 45) (.tmp 48) rfl U9 .i64 t (t.length - 1) u hu.out _ hz.out rfl rfl) ?_); (case hF => exact hFw); (case hd => exact (fun _ h => by cases h)); (case hw => rfl)) | ((with_reducible refine li_runG ?hF ?hd ?hw (ex_neq _ 5 5 (.tmp 49) (.const (.int .u8 10)) rfl .u8 (u.toNat : Int) 10 rfl rfl false hq.out) ?_); (case hF => exact hFw); (case hd => exact (fun _ h => by cases h)); (case hw => rfl)))
     ·obtain ⟨g1, g2, g3, g4, g5⟩ := hpb2.out.left hD6.out hd.out ((c : Int) + 1) 270
      refine ⟨by simp, .inl ⟨_, _, rfl, run_takeDeferred g1, ?_⟩⟩
      exact ⟨_, results_3 rfl _ _ w.heap.size (w.heap.size + 1) (w.heap.size + 1 + 1) Z6 _ _ rfl rfl rfl g2 rfl g3 g4, ⟨z0, none, none, none, 0, 0, 0, ((c : Int) + 1), 270, rfl, scr_z0 _, hout.out _ hNc.out⟩, g5⟩
    ·have hq : Hd (decide ((u.toNat : Int) ≠ 10) = true) := ⟨decide_eq_true (fun h => h10 (by
      have h2 : u.toNat = (10 : UInt8).toNat := by
       have : (10 : UInt8).toNat = 10 := rfl
       omega
      exact UInt8.toNat_inj.1 h2))⟩
     have hNc : Hd ((c : Int) + 1 + 1 = (N : Int) + 1) := ⟨by rw [if_neg h10] at hlc; omega⟩
     replace h10 := Hd.mk h10
     clear hlc
     gi_wp2_with (first | (gi_at_call 76; refine (callsIn_wide.2 hcnt.out).mono ?_; rintro e W1 ⟨rfl, rfl⟩; dsimp only) | (refine li_z53 hFw (fun _ h => by cases h) rfl rfl rfl rfl hpb.out ?_; intro w2 hpb2; have d3 : w2.cell? ⟨w.heap.size + 1, 0, none⟩ = some (.int .i64 0) := hpb2.z3.cell 0; have d4 : w2.cell? ⟨w.heap.size + 1 + 1, 0, none⟩ = some (.int .i64 0) := hpb2.z4.cell 0; have f3 : w2.frozen? ⟨w.heap.size + 1, 0, none⟩ = false := hpb2.z3.free 0; have f4 : w2.frozen? ⟨w.heap.size + 1 + 1, 0, none⟩ = false := hpb2.z4.free 0; replace hpb2 := Hd.mk hpb2) | ((with_reducible refine li_run hFw (fun _ h => by cases h) rfl (ex_sneq _ 9 9 (.tmp 42) (.const (.string ⟨#[]⟩)) rfl t [] true hb.out rfl rfl) ?_)) | ((with_reducible refine li_runG ?hF ?hd ?hw (ex_sidx _ 9 (.tmp 45) (.tmp 48) rfl U9 .i64 t (t.length - 1) u hu.out _ hz.out rfl rfl) ?_); (case hF => exact hFw); (case hd => exact (fun _ h => by cases h)); (case hw => rfl)) | ((with_reducible refine li_runG ?hF ?hd ?hw (ex_neq _ 5 5 (.tmp 49) (.const (.int .u8 10)) rfl .u8 (u.toNat : Int) 10 rfl rfl true hq.out) ?_); (case hF => exact hFw); (case hd => exact (fun _ h => by cases h)); (case hw => rfl)))
     ·obtain ⟨g1, g2, g3, g4, g5⟩ := hpb2.out.left hD6.out hd.out ((c : Int) + 1 + 1) 270
      refine ⟨by simp, .inl ⟨_, _, rfl, run_takeDeferred g1, ?_⟩⟩
      exact ⟨_, results_3 rfl _ _ w.heap.size (w.heap.size + 1) (w.heap.size + 1 + 1) Z6 _ _ rfl rfl rfl g2 rfl g3 g4, ⟨z0, none, none, none, 0, 0, 0, ((c : Int) + 1 + 1), 270, rfl, scr_z0 _, hout.out _ hNc.out⟩, g5⟩
  ·have h3' : 3 ≤ (saidS t).length := by omega
   obtain ⟨st, hst⟩ : ∃ st : Int, stg (saidS t).length s = st := ⟨_, rfl⟩
   have hge : 3 ≤ st := by
    rw [← hst]; unfold stg; rw [if_neg h3]
    split
    ·omega
    ·split <;> omega
   rw [hst] at d6
   have hrg : Hd (W.rangeAt (w.heap.size + 1 + 1 + 1) 0 (r6 s F cF S cS X cA)) := ⟨hR.blk.range 0 6⟩
   have hPO : Hd (POut t (saidS t) (lnGo [] t).length s 0 0) := ⟨.inr ⟨by have := ht.out; omega, .inr (.inr ⟨hP, h3', rfl, rfl⟩)⟩⟩
   replace h := Hd.mk h
   replace hR := Hd.mk hR
   have hFw : ∀ f, Fence.wide.fn f := fun _ => trivial
   clear hP hsc hst h3 h3'
   gi_wp2_with (first | ((refine li_run hFw (fun _ h => by cases h) rfl (ex_load_mid W 53 (.tmp 59) rfl (w.heap.size + 1 + 1 + 1) 0 rfl (r6 s F cF S cS X cA) hrg.out Tryz.underlying53 rfl (by kernel_rfl)) ?_)) | (refine li_s53 hFw (fun _ h => by cases h) rfl rfl rfl (r6 s F cF S cS X cA) rfl rfl (by simp [Value.oneCell']) h.out.z2 ?_; intro w2 hb hk hs; have d3 : w2.cell? ⟨w.heap.size + 1, 0, none⟩ = some (.int .i64 0) := Blk.cell (hk.keeps h.out.z3 (by show ¬ w.heap.size + 1 = w.heap.size; omega)) 0; have d4 : w2.cell? ⟨w.heap.size + 1 + 1, 0, none⟩ = some (.int .i64 0) := Blk.cell (hk.keeps h.out.z4 (by show ¬ w.heap.size + 1 + 1 = w.heap.size; omega)) 0; have f3 : w2.frozen? ⟨w.heap.size + 1, 0, none⟩ = false := Blk.free (hk.keeps h.out.z3 (by show ¬ w.heap.size + 1 = w.heap.size; omega)) 0; have f4 : w2.frozen? ⟨w.heap.size + 1 + 1, 0, none⟩ = false := Blk.free (hk.keeps h.out.z4 (by show ¬ w.heap.size + 1 + 1 = w.heap.size; omega)) 0; replace hb := Hd.mk hb; replace hk := Hd.mk hk; replace hs := Hd.mk hs))
   obtain ⟨g1, g2, g3, g4, g5, g6⟩ := h.out.good hR.out rfl hb.out hk.out hs.out hD6.out hd.out
   refine ⟨by simp, .inl ⟨_, _, rfl, run_takeDeferred g1, ?_⟩⟩
   exact ⟨_, results_3 rfl _ _ w.heap.size (w.heap.size + 1) (w.heap.size + 1 + 1) (r6 s F cF S cS X cA) _ _ rfl rfl rfl g2 rfl g3 g4, ⟨s, F, S, X, cF, cS, cA, 0, 0, rfl, g5.scr2, hPO.out⟩, g6⟩
 case stop =>
  rintro D c pre W hD ⟨hp, hne⟩ ⟨rfl, h⟩ hd
  have h := Hd.mk h
  have hres := Hd.mk (h.out.left ht.out (by have := hle.out; omega) hd)
  gi_wp2
  refine ⟨by simp, .inl ⟨_, _, rfl, run_takeDeferred hd, ?_⟩⟩
  obtain ⟨n, h1, h2, h3, h4⟩ := hres.out
  exact ⟨_, results_3 rfl _ _ w.heap.size (w.heap.size + 1) (w.heap.size + 1 + 1) Z6 _ _ rfl rfl rfl h1 rfl h2 h3, h4⟩
theorem parse_at (t : List UInt8) {w : World} (hE : Ev w) : Calls Tryz.prog 30 #[.string ⟨t.toArray⟩] w fun e w' => PaR t w w' e := by
 by_cases h : t.length ≤ 65536
 ·exact parse_short t h hE
 ·exact parse_long t (by omega) w
end Go.Proofs.YtkcechpaeilaeaaGreatDoor
