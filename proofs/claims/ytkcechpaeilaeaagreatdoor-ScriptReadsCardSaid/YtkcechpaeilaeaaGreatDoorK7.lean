/- Joined out of: Q6 Av. -/
import Derived.Test.YtkcechpaeilaeaaGreatDoorK6
import Derived.Test.YtkcechpaeilaeaaGreatDoorK5
import Derived.Laws.ResultCell
set_option linter.unusedVariables false
set_option linter.unusedSimpArgs false
namespace Go.Proofs.YtkcechpaeilaeaaGreatDoor
open Go.RowKit
set_option maxRecDepth 100000
theorem un_nil (l : List UInt8) (k : Nat) (h : l.length ≤ k) : un (l.drop k) = some [] := by rw [List.drop_of_length_le h]; rfl
theorem un_c {l : List UInt8} {k : Nat} {c : UInt8} (h : l[k]? = some c) (hc : c ≠ 92) : un (l.drop k) = (un (l.drop (k + 1))).map (c :: ·) := by
 obtain ⟨h1, rfl⟩ := List.getElem?_eq_some_iff.1 h
 rw [List.drop_eq_getElem_cons h1, un_pln _ hc]
theorem un_s {l : List UInt8} {k : Nat} (h : l[k]? = some 92) (hl : l.length < k + 3) : un (l.drop k) = none := by
 obtain ⟨h1, e⟩ := List.getElem?_eq_some_iff.1 h
 rw [List.drop_eq_getElem_cons h1, e, un.eq_def]
 simp only [if_true]
 split
 ·rename_i x y z e
  have := congrArg List.length e
  simp at this
  omega
 ·rfl
theorem un_3 {l : List UInt8} {k : Nat} {h m : UInt8} (hc : l[k]? = some 92) (hh : l[k + 1]? = some h) (hm : l[k + 2]? = some m) :
  un (l.drop k) = if vld h.toNat < 16 ∧ vld m.toNat < 16 then (un (l.drop (k + 3))).map ((hl h m).toUInt8 :: ·) else none := by
 obtain ⟨h1, e1⟩ := List.getElem?_eq_some_iff.1 hc
 obtain ⟨h2, rfl⟩ := List.getElem?_eq_some_iff.1 hh
 obtain ⟨h3, rfl⟩ := List.getElem?_eq_some_iff.1 hm
 rw [List.drop_eq_getElem_cons h1, List.drop_eq_getElem_cons h2, List.drop_eq_getElem_cons h3, un.eq_def, e1]
 simp only [if_true]
def Uni (w wr : World) (l : List UInt8) (k : Nat) (v : Value) : Prop := ∃ out, Ob w.heap.size wr v (ints out) ∧ Below w.heap.size w wr ∧ un l = (un (l.drop k)).map (out ++ ·) ∧ out.length ≤ k
theorem Uni.none {w wr : World} {l : List UInt8} {k : Nat} {v : Value} (h : Uni w wr l k v) (bl : Bool) (hn : un (l.drop k) = none) : UqR w wr (uq bl l) (.returned (.tuple #[.slice none 0 0, .int .i64 270])) := by
 obtain ⟨out, h1, h2, h3, h4⟩ := h
 rw [hn] at h3
 refine .none ?_ h2
 rw [← un_uq, h3]
 rfl
theorem Uni.more {w wr wr' : World} {l : List UInt8} {k : Nat} {v' : Value} {out : List UInt8} {c : UInt8} {d : Nat} (h2 : Below w.heap.size w wr) (h3 : un l = (un (l.drop k)).map (out ++ ·)) (h4 : out.length ≤ k)
  (hs : un (l.drop k) = (un (l.drop d)).map (c :: ·)) (hd : k < d) (ho : Ob w.heap.size wr' v' (ints out ++ [(c.toNat : Int)])) (hb : Below w.heap.size wr wr') : Uni w wr' l d v' := by
 refine ⟨out ++ [c], by rw [ints_append]; exact ho, h2.trans hb, ?_, by simp; omega⟩
 rw [h3, hs]
 cases un (l.drop d) <;> simp
set_option maxHeartbeats 2000000 in
theorem runquote_at {w : World} (l : List UInt8) (bl : Bool) (hl : l.length < 100000000) : Calls Tryz.prog 15 #[.string ⟨l.toArray⟩, .bool bl] w fun e w' => UqR w w' (uq bl l) e := by
 have hL : (l.length : Int) < 100000000 := by omega
 clear hl
 go_enter Tryz.func15, Tryz.ntmps15
 go_wp2_with fail
 go_loopw [6, 7] (fun v6 v7 wr => ∃ k : Nat, v7 = .int .i64 k ∧ (k : Int) ≤ (l.length : Int) ∧ Hd (Uni w wr l k v6)) (fun _ v7 _ => l.length - (intOf v7).toNat)
 case atStart => exact ⟨0, rfl, by omega, ⟨[], Ob.fresh w _ (Nat.le_refl _), (Below.refl _ w).alloc (Nat.le_refl _) _, by simp, Nat.le_refl _⟩⟩
 case round =>
  obtain ⟨k, rfl, hk, HH⟩ := hrel
  by_cases hlt : k < l.length
  ·have hlt2 : (k : Int) < (l.length : Int) := by omega
   obtain ⟨c, hck⟩ : ∃ c, Hd (l[k]? = some c) := ⟨_, ⟨List.getElem?_eq_getElem hlt⟩⟩
   by_cases h92 : c = 92
   ·subst h92
    by_cases h3 : k + 3 ≤ l.length
    ·have h33 : ((k : Int) + 2 < (l.length : Int)) := by omega
     obtain ⟨h, hhk⟩ : ∃ c, Hd (l[k + 1]? = some c) := ⟨_, ⟨List.getElem?_eq_getElem (by omega)⟩⟩
     obtain ⟨m, hmk⟩ : ∃ c, Hd (l[k + 2]? = some c) := ⟨_, ⟨List.getElem?_eq_getElem (by omega)⟩⟩
     have hu := Hd.mk (un_3 hck.out hhk.out hmk.out)
     have hle1 : (vld h.toNat : Int) ≤ 16 := by have := vld_le h.toNat; omega
     have hle2 : (vld m.toNat : Int) ≤ 16 := by have := vld_le m.toNat; omega
     have hd33 : Hd (decide ((l.length : Int) ≤ (k : Int) + 2) = false) := ⟨decide_eq_false (by omega)⟩
     have hv1 : ∀ W, Calls Tryz.prog 57 #[.int .u8 (h.toNat : Int)] W fun e w' => e = .returned (.int .i64 (vld h.toNat : Int)) ∧ W = w' := value_at h.toNat
     have hv2 : ∀ W, Calls Tryz.prog 57 #[.int .u8 (m.toNat : Int)] W fun e w' => e = .returned (.int .i64 (vld m.toNat : Int)) ∧ W = w' := value_at m.toNat
     have hv1 := Hd.mk hv1
     have hv2 := Hd.mk hv2
     have h3i : (k : Int) + 3 ≤ l.length := by omega
     have hlv : hl h m = 16 * vld h.toNat + vld m.toNat := rfl
     rw [hlv] at hu
     clear h3 hlv
     by_cases v1 : vld h.toNat < 16
     ·have g1 : Hd (decide ((15 : Int) < (vld h.toNat : Int)) = false) := ⟨decide_eq_false (by omega)⟩
      by_cases v2 : vld m.toNat < 16
      ·have g2 : Hd (decide ((15 : Int) < (vld m.toNat : Int)) = false) := ⟨decide_eq_false (by omega)⟩
       have hlt3 : 16 * vld h.toNat + vld m.toNat < 256 := by omega
       have hb8 : Hd (((16 * vld h.toNat + vld m.toNat : Nat).toUInt8.toNat : Int) = ((16 * vld h.toNat + vld m.toNat : Nat) : Int)) := ⟨by simp; omega⟩
       have hv12 := Hd.mk (And.intro v1 v2)
       clear hle1 hle2
       generalize vld h.toNat = vh at *
       generalize vld m.toNat = vm at *
       obtain ⟨out, ho, hb, huu, hlen⟩ := HH.out
       have ho := Hd.mk ho
       have huu := Hd.mk huu
       have hsz := Hd.mk hb.size
       have hb := Hd.mk hb
       go_wp2_with (first | (go_at_call 57; first | ((with_reducible refine (hv1.out _).mono ?_); rintro e w' ⟨rfl, rfl⟩; dsimp only) | ((with_reducible refine (hv2.out _).mono ?_); rintro e w' ⟨rfl, rfl⟩; dsimp only)) | (with_reducible refine wl_run rfl (ex_sidx _ 9 _ _ rfl rfl .i64 l k 92 hck.out _ rfl rfl rfl) ?_) | (with_reducible refine wl_run rfl (ex_slen _ 9 _ rfl rfl l rfl) ?_) | ((with_reducible refine wl_run rfl (ex_geq _ 3 3 (.tmp 26) (.tmp 28) rfl .i64 ((k : Int) + 2) (l.length : Int) rfl rfl false hd33.out) ?_); simp only [Act.put, uA, uB, uC]) | ((with_reducible refine wl_runG ?hw (ex_sidx _ 9 (.tmp 31) (.tmp 33) rfl rfl .i64 l (k + 1) h hhk.out _ ?hz rfl rfl) ?_); (case hw => rfl); (case hz => rfl)) | ((with_reducible refine wl_runG ?hw (ex_sidx _ 9 (.tmp 39) (.tmp 41) rfl rfl .i64 l (k + 2) m hmk.out _ ?hz rfl rfl) ?_); (case hw => rfl); (case hz => rfl)) | ((with_reducible refine wl_runG ?hw (ex_gtr _ 3 3 (.tmp 35) (.const (.int .i64 15)) rfl .i64 (vh : Int) 15 rfl rfl false g1.out) ?_); (case hw => rfl); simp only [Act.put, uA, uB, uC]) | ((with_reducible refine wl_runG ?hw (ex_gtr _ 3 3 (.tmp 43) (.const (.int .i64 15)) rfl .i64 (vm : Int) 15 rfl rfl false g2.out) ?_); (case hw => rfl); simp only [Act.put, uA, uB, uC]))
       have hS : Hd ((fun W : World => True) wr.drew) := ⟨trivial⟩
       refine rn_begin (fun W : World => True) (List.range 17) (by kernel_rfl) ?_
       refine rnA 0 46 (u6) (rnM rfl rfl) hS.out ?_
       refine rnA 1 47 (.string ⟨(l).toArray⟩) (rnM rfl rfl) hS.out ?_
       refine rnA 2 48 (.int .i64 ((k : Nat) : Int)) (rnM rfl rfl) hS.out ?_
       simp only [Act.put, uA, uB, uC]
       refine rnA 3 49 (.int .i64 ((k + 1 : Nat) : Int)) (fun W hW => er_add W 3 _ _ _ rfl k 1 (k + 1) (by first | rfl | omega) rfl rfl (by omega)) hS.out ?_
       refine rnA 4 50 (.int .u8 ((h.toNat : Nat) : Int)) (fun W hW => ex_sidx W 9 _ _ rfl U9 .i64 l (k + 1) h (hhk.out) _ (by first | rfl | omega) rfl rfl) hS.out ?_
       refine rnA 7 53 (.string ⟨(l).toArray⟩) (rnM rfl rfl) hS.out ?_
       simp only [Act.put, uA, uB, uC]
       refine rnA 8 54 (.int .i64 ((k : Nat) : Int)) (rnM rfl rfl) hS.out ?_
       refine rnA 9 55 (.int .i64 ((k + 2 : Nat) : Int)) (fun W hW => er_add W 3 _ _ _ rfl k 2 (k + 2) (by first | rfl | omega) rfl rfl (by omega)) hS.out ?_
       refine rnA 10 56 (.int .u8 ((m.toNat : Nat) : Int)) (fun W hW => ex_sidx W 9 _ _ rfl U9 .i64 l (k + 2) m (hmk.out) _ (by first | rfl | omega) rfl rfl) hS.out ?_
       simp only [Act.put, uA, uB, uC]
       refine rn_one (i := 5) (dst := some 51) rfl (by kernel_rfl) rfl rfl (fun K hK => ?_)
       refine ow_call 57 _ _ rfl Tryz.func57 (by kernel_rfl) (by kernel_rfl) [.int .u8 (h.toNat : Int)] rfl (hv1.out _) ?_
       rintro e w1 ⟨rfl, rfl⟩
       refine ⟨_, rfl, hK _ _ (fun _ => trivial) ?_⟩
       clear hK K
       simp only [Act.put, uA, uB, uC]
       refine rnA 6 52 (.int .i64 ((16 * vh : Nat) : Int)) (fun W hW => er_mul W 3 _ _ _ rfl 16 vh (16 * vh) (by first | rfl | omega) rfl rfl (by omega)) hS.out ?_
       simp only [Act.put, uA, uB, uC]
       refine rn_one (i := 11) (dst := some 57) rfl (by kernel_rfl) rfl rfl (fun K hK => ?_)
       refine ow_call 57 _ _ rfl Tryz.func57 (by kernel_rfl) (by kernel_rfl) [.int .u8 (m.toNat : Int)] rfl (hv2.out _) ?_
       rintro e w1 ⟨rfl, rfl⟩
       refine ⟨_, rfl, hK _ _ (fun _ => trivial) ?_⟩
       clear hK K
       simp only [Act.put, uA, uB, uC]
       refine rnA 12 58 (.int .i64 ((16 * vh + vm : Nat) : Int)) (fun W hW => er_add W 3 _ _ _ rfl (16 * vh) vm (16 * vh + vm) (by first | rfl | omega) rfl rfl (by omega)) hS.out ?_
       refine rnA 13 59 (.int .u8 ((16 * vh + vm : Nat) : Int)) (fun W hW => ex_tou8 W 3 5 _ rfl (by kernel_rfl) U5 .i64 (16 * vh + vm) (by omega) rfl) hS.out ?_
       simp only [Act.put, uA, uB, uC]
       refine rn_one (i := 14) (dst := some 60) rfl (by kernel_rfl) rfl rfl (fun K hK => ?_)
       refine ow_lit1 _ rfl ((16 * vh + vm : Nat) : Int) rfl ?_
       intro v1 w1 hv1 hk1
       refine hK _ _ (fun _ => trivial) ?_
       have hv1 := Hd.mk hv1
       have hk1 := Hd.mk hk1
       clear hK K hS
       have hS : Hd ((fun W : World => True) w1) := ⟨trivial⟩
       simp only [Act.put, uA, uB, uC]
       refine rn_one (i := 15) (dst := some 61) rfl (by kernel_rfl) rfl rfl (fun K hK => ?_)
       refine ow_ob _ _ rfl u6 _ rfl ((ho.out.keep ((Kp.refl _ wr).drew)).keep hk1.out) (Nat.le_trans hsz.out hk1.out.size) v1 [((16 * vh + vm : Nat) : Int)] rfl hv1.out (by rw [ints_length]; simp only [List.length_cons, List.length_nil]; omega) ?_
       intro v2 w2 hv2 hb2
       refine hK _ _ (fun _ => trivial) ?_
       have hv2 := Hd.mk hv2
       have hb2 := Hd.mk hb2
       clear hK K hS
       have hS : Hd ((fun W : World => True) w2) := ⟨trivial⟩
       simp only [Act.put, uA, uB, uC]
       refine rnA 16 6 (v2) (fun W hW => ex_assign W _ _ rfl rfl) hS.out ?_
       simp only [Act.put, uA, uB, uC]
       refine rn_done (by kernel_rfl) ?_ _
       clear hS
       go_wp2_with fail
       refine ⟨⟨k + 3, by go_num, by omega, ⟨Uni.more (c := (16 * vh + vm).toUInt8) hb.out huu.out hlen ?_ (by omega) (by rw [hb8.out]; exact hv2.out) (((((Kp.refl (fun _ => False) wr).drew).th hk1.out).toBelow hsz.out (fun _ h => h.elim)).trans hb2.out)⟩⟩, by simp [intOf]; omega⟩
       rw [hu.out, if_pos hv12.out]
      ·have g2 : Hd (decide ((15 : Int) < (vld m.toNat : Int)) = true) := ⟨decide_eq_true (by omega)⟩
       have hn : Hd (un (l.drop k) = none) := ⟨by rw [hu.out, if_neg (fun e => v2 e.2)]⟩
       clear v2 v1
       go_wp2_with (first | (go_at_call 57; first | ((with_reducible refine (hv1.out _).mono ?_); rintro e w' ⟨rfl, rfl⟩; dsimp only) | ((with_reducible refine (hv2.out _).mono ?_); rintro e w' ⟨rfl, rfl⟩; dsimp only)) | (with_reducible refine wl_run rfl (ex_sidx _ 9 _ _ rfl rfl .i64 l k 92 hck.out _ rfl rfl rfl) ?_) | (with_reducible refine wl_run rfl (ex_slen _ 9 _ rfl rfl l rfl) ?_) | ((with_reducible refine wl_run rfl (ex_geq _ 3 3 (.tmp 26) (.tmp 28) rfl .i64 ((k : Int) + 2) (l.length : Int) rfl rfl false hd33.out) ?_); simp only [Act.put, uA, uB, uC]) | ((with_reducible refine wl_runG ?hw (ex_sidx _ 9 (.tmp 31) (.tmp 33) rfl rfl .i64 l (k + 1) h hhk.out _ ?hz rfl rfl) ?_); (case hw => rfl); (case hz => rfl)) | ((with_reducible refine wl_runG ?hw (ex_sidx _ 9 (.tmp 39) (.tmp 41) rfl rfl .i64 l (k + 2) m hmk.out _ ?hz rfl rfl) ?_); (case hw => rfl); (case hz => rfl)) | ((with_reducible refine wl_runG ?hw (ex_gtr _ 3 3 (.tmp 35) (.const (.int .i64 15)) rfl .i64 (vld h.toNat : Int) 15 rfl rfl false g1.out) ?_); (case hw => rfl); simp only [Act.put, uA, uB, uC]) | ((with_reducible refine wl_runG ?hw (ex_gtr _ 3 3 (.tmp 43) (.const (.int .i64 15)) rfl .i64 (vld m.toNat : Int) 15 rfl rfl true g2.out) ?_); (case hw => rfl); simp only [Act.put, uA, uB, uC]))
       go_ret2
       exact HH.out.none bl hn.out
     ·have g1 : Hd (decide ((15 : Int) < (vld h.toNat : Int)) = true) := ⟨decide_eq_true (by omega)⟩
      have hn : Hd (un (l.drop k) = none) := ⟨by rw [hu.out, if_neg (fun e => v1 e.1)]⟩
      clear v1
      go_wp2_with (first | (go_at_call 57; first | ((with_reducible refine (hv1.out _).mono ?_); rintro e w' ⟨rfl, rfl⟩; dsimp only) | ((with_reducible refine (hv2.out _).mono ?_); rintro e w' ⟨rfl, rfl⟩; dsimp only)) | (with_reducible refine wl_run rfl (ex_sidx _ 9 _ _ rfl rfl .i64 l k 92 hck.out _ rfl rfl rfl) ?_) | (with_reducible refine wl_run rfl (ex_slen _ 9 _ rfl rfl l rfl) ?_) | ((with_reducible refine wl_run rfl (ex_geq _ 3 3 (.tmp 26) (.tmp 28) rfl .i64 ((k : Int) + 2) (l.length : Int) rfl rfl false hd33.out) ?_); simp only [Act.put, uA, uB, uC]) | ((with_reducible refine wl_runG ?hw (ex_sidx _ 9 (.tmp 31) (.tmp 33) rfl rfl .i64 l (k + 1) h hhk.out _ ?hz rfl rfl) ?_); (case hw => rfl); (case hz => rfl)) | ((with_reducible refine wl_runG ?hw (ex_gtr _ 3 3 (.tmp 35) (.const (.int .i64 15)) rfl .i64 (vld h.toNat : Int) 15 rfl rfl true g1.out) ?_); (case hw => rfl); simp only [Act.put, uA, uB, uC]))
      go_ret2
      exact HH.out.none bl hn.out
    ·have h33 : ((l.length : Int) ≤ k + 2) := by omega
     have hn := Hd.mk (un_s hck.out (by omega))
     clear h3
     go_wp2_with (first | (with_reducible refine wl_run rfl (ex_sidx _ 9 _ _ rfl rfl .i64 l k 92 hck.out _ rfl rfl rfl) ?_) | (with_reducible refine wl_run rfl (ex_slen _ 9 _ rfl rfl l rfl) ?_))
     go_ret2
     exact HH.out.none bl hn.out
   ·have h92i : (c.toNat : Int) ≠ 92 := fun e => h92 (UInt8.toNat_inj.1 (show c.toNat = 92 by omega))
    have hn := Hd.mk (un_c hck.out h92)
    have hneb : Hd (decide ((c.toNat : Int) ≠ 92) = true) := ⟨decide_eq_true h92i⟩
    clear h92
    obtain ⟨out, ho, hb, hu, hlen⟩ := HH.out
    have ho := Hd.mk ho
    have hu := Hd.mk hu
    have hsz := Hd.mk hb.size
    have hb := Hd.mk hb
    go_wp2_with (first | ((with_reducible refine wl_run rfl (ex_neq _ 5 5 (.tmp 17) (.const (.int .u8 92)) rfl .u8 (c.toNat : Int) 92 rfl rfl true hneb.out) ?_); simp only [Act.put, uA, uB, uC]) | (with_reducible refine wl_lit1 rfl (.tmp 22) rfl (c.toNat : Int) rfl ?_; intro v1 w1 hv1 hk1; have hv1 := Hd.mk hv1; have hk1 := Hd.mk hk1) | (with_reducible refine wl_ob rfl (.tmp 19) (.tmp 23) rfl u6 _ rfl (ho.out.keep hk1.out) (Nat.le_trans hsz.out hk1.out.size) v1 [(c.toNat : Int)] rfl hv1.out (by rw [ints_length]; simp only [List.length_cons, List.length_nil]; omega) ?_; intro v2 w2 hv2 hb2; have hv2 := Hd.mk hv2; have hb2 := Hd.mk hb2) | (with_reducible refine wl_run rfl (ex_sidx _ 9 _ _ rfl rfl .i64 l k c hck.out _ rfl rfl rfl) ?_) | (with_reducible refine wl_run rfl (ex_slen _ 9 _ rfl rfl l rfl) ?_))
    exact ⟨⟨k + 1, by go_num, by omega, ⟨Uni.more hb.out hu.out hlen hn.out (by omega) hv2.out ((hk1.out.toBelow hsz.out (fun _ h => h.elim)).trans hb2.out)⟩⟩, by simp [intOf]; omega⟩
  ·have hk2 : (k : Int) = l.length := by omega
   have hn := Hd.mk (un_nil l k (by omega))
   obtain ⟨out, ho, hb, hu, hlen⟩ := HH.out
   have hu : Hd (un l = some out) := ⟨by rw [hu, hn.out]; simp⟩
   have ho := Hd.mk ho
   have hb := Hd.mk hb
   by_cases hq : quote out bl = l
   ·have hr : Hd (uq bl l = some out) := ⟨by rw [← un_uq, hu.out]; simp [hq]⟩
    have hd : Hd ((quote out bl != l) = false) := ⟨by simp [hq]⟩
    clear hq
    go_wp2_with (first | (with_reducible refine wl_run rfl (ex_slen _ 9 _ rfl rfl l rfl) ?_) | (go_at_call 18; refine (rquote_at (l := out) ho.out.bs bl (by omega)).mono ?_; rintro e w1 ⟨rfl, hk1⟩; have ho1 := Hd.mk (ho.out.keep hk1); have hk1 := Hd.mk hk1; dsimp only) | ((with_reducible refine wl_run rfl (ex_sneq _ 9 9 (.tmp 66) (.tmp 67) rfl (quote out bl) l false hd.out rfl rfl) ?_); simp only [Act.put, uA, uB, uC]))
    go_ret2
    rw [hr.out]
    exact ⟨⟨_, rfl, ho1.out⟩, Kp.of_below (hb.out.trans (hk1.out.toBelow hb.out.size (fun _ h => h.elim))) _⟩
   ·have hr : Hd (uq bl l = none) := ⟨by rw [← un_uq, hu.out]; simp [hq]⟩
    have hd : Hd ((quote out bl != l) = true) := ⟨by simp [hq]⟩
    clear hq
    go_wp2_with (first | (with_reducible refine wl_run rfl (ex_slen _ 9 _ rfl rfl l rfl) ?_) | (go_at_call 18; refine (rquote_at (l := out) ho.out.bs bl (by omega)).mono ?_; rintro e w1 ⟨rfl, hk1⟩; have ho1 := Hd.mk (ho.out.keep hk1); have hk1 := Hd.mk hk1; dsimp only) | ((with_reducible refine wl_run rfl (ex_sneq _ 9 9 (.tmp 66) (.tmp 67) rfl (quote out bl) l true hd.out rfl rfl) ?_); simp only [Act.put, uA, uB, uC]))
    go_ret2
    rw [hr.out]
    exact ⟨rfl, Kp.of_below (hb.out.trans (hk1.out.toBelow hb.out.size (fun _ h => h.elim))) _⟩
end Go.Proofs.YtkcechpaeilaeaaGreatDoor
namespace Go.Proofs.YtkcechpaeilaeaaGreatDoor
open Go.RowKit
set_option maxRecDepth 20000
abbrev Z5 : List Value := [.int .i64 0, .string ⟨#[]⟩, .slice none 0 0, .int .i64 0, .slice none 0 0]
structure Av (w wr : World) (Z A : Nat) (v0 v1 v2 v3 v4 : Value) : Prop where
 old : Below w.heap.size w wr
 zero : Blk wr Z Z5 24
 act : Blk wr A [v0, v1, v2, v3, v4] 24
 hz : w.heap.size ≤ Z
 ne : Z < A
section
variable {w wr wr' : World} {Z A : Nat} {v0 v1 v2 v3 v4 : Value}
theorem Av.c0 (h : Av w wr Z A v0 v1 v2 v3 v4) : wr.cell? ⟨A, 0, none⟩ = some v0 := (h.act.cell 0).trans rfl
theorem Av.c4 (h : Av w wr Z A v0 v1 v2 v3 v4) : wr.cell? ⟨A, 4, none⟩ = some v4 := (h.act.cell 4).trans rfl
theorem Av.all (h : Av w wr Z A v0 v1 v2 v3 v4) : wr.rangeAt A 0 [v0, v1, v2, v3, v4] := h.act.range 0 5
theorem Av.keep (h : Av w wr Z A v0 v1 v2 v3 v4) (hk : KZ wr wr') : Av w wr' Z A v0 v1 v2 v3 v4 :=
 ⟨h.old.trans (hk.toBelow h.old.size (fun _ h => h.elim)), hk.keeps h.zero id, hk.keeps h.act id, h.hz, h.ne⟩
theorem Av.lt (h : Av w wr Z A v0 v1 v2 v3 v4) : A < wr.heap.size := blk_lt h.act
theorem Av.set (h : Av w wr Z A v0 v1 v2 v3 v4) (i : Nat) (v : Value) {u0 u1 u2 u3 u4 : Value} (e : [v0, v1, v2, v3, v4].set i v = [u0, u1, u2, u3, u4]) : Av w (wr.setCell ⟨A, i, none⟩ v) Z A u0 u1 u2 u3 u4 := by
 refine ⟨h.old.setCell (p := ⟨A, i, none⟩) (Nat.le_trans h.hz (Nat.le_of_lt h.ne)) v, h.zero.other _ _ (fun e => by have := h.ne; simp only at e; omega), ?_, h.hz, h.ne⟩
 have := h.act.set i v
 rw [e] at this
 exact this
theorem Av.kp (A i : Nat) (v : Value) (wr : World) : Kp (· = A) wr (wr.setCell ⟨A, i, none⟩ v) := (Kp.refl _ wr).setCell _ _ (.inr rfl)
theorem Av.ev (h : Av w wr Z A v0 v1 v2 v3 v4) (hE : Ev w) : Ev wr := ev_below hE h.old
section
variable {ops : Array Oper} {rest : List Oper} {o : Oper} {a : Act} {Q : Exit → Act → World → Prop}
theorem wl_av {ty : Nat} (hg : o.guard = none) (x y : Operand) (ho : o.op = .store ty x y) (h : Av w wr Z A v0 v1 v2 v3 v4) (i : Nat) (v : Value) (hi : (Tryz.prog.info? ty).map (·.size) = some 1) (hx : a.eval x = .pointer (some ⟨A, i, none⟩)) (hy : a.eval y = v) (hv : v.cells = #[v]) (h1 : v.oneCell' = true)
  {u0 u1 u2 u3 u4 : Value} (e : [v0, v1, v2, v3, v4].set i v = [u0, u1, u2, u3, u4]) {old : Value} (hc : [v0, v1, v2, v3, v4][i]? = some old)
  (hn : ∀ w2, Av w w2 Z A u0 u1 u2 u3 u4 → Kp (· = A) wr w2 → wpList Tryz.prog ops Q rest (a.put o.dst undef) w2) : wpList Tryz.prog ops Q (o :: rest) a wr :=
 wpList_plain hg fun _ hK => ow_store ty x y v old ho ⟨A, i, none⟩ hi hx hy hv h1 ((h.act.cell i).trans hc) (h.act.free i) (hK _ _ (hn _ (h.set i v e) (Av.kp A i v wr)))
end
end
theorem results_act {fn : Func} {p u : Tmp} (h : fn.results = #[.cell p 24, .tmp u]) (tmps : Array Value) (w : World) (Z : Nat) (cs : List Value) (hp : tmps.getD p undef = .pointer (some ⟨Z, 0, none⟩)) (hb : Blk w Z cs 24) (hl : cs.length = 5) :
  (results fn tmps).run Tryz.prog w = .ok (.tuple #[.agg cs.toArray, tmps.getD u undef]) w := by
 have hr := hb.range 0 cs.length
 rw [List.drop_zero, List.take_length] at hr
 rw [results_cell_tmp h, hp]
 simp only [asAddr, Sem.run_pure, Result.andThen_ok]
 rw [run_loadVar_mid w Z 0 24 cs _ hr Tryz.underlying24 rfl (by rw [hl]; kernel_rfl)]
 rfl
structure BsF (b : Nat) (w : World) (v : Value) (l : List Int) : Prop where
 bs : Bs w v l
 fr : ∀ k, v.ownBlock = some k → b ≤ k
theorem BsF.nil (b : Nat) (w : World) : BsF b w (.slice none 0 0) (ints []) := ⟨⟨none, 0, rfl, Nat.le_refl _, .inl rfl⟩, fun k h => by cases h⟩
structure ActR (l : List UInt8) (w w' : World) (e : Ending) : Prop where
 ex : ∃ (a : A) (At : Option Addr) (ct : Nat) (Ap : Option Addr) (cp : Nat) (ok : Bool), e = .returned (.tuple #[.agg #[.int .i64 a.d, .string ⟨a.k.toArray⟩, .slice At a.t.length ct, .int .i64 a.n, .slice Ap a.p.length cp], .int .i64 (if ok then 0 else 270)])
  ∧ Says l a ok ∧ (ok = false → a = ⟨0, [], [], 0, []⟩) ∧ BsF w.heap.size w' (.slice At a.t.length ct) (ints a.t) ∧ BsF w.heap.size w' (.slice Ap a.p.length cp) (ints a.p)
 kp : KZ w w'
structure NamesTo (x : List UInt8) (j d : Int) : Prop where
 any : ∀ i : Int, 1 ≤ i → i < j → nm i = x → d = i
 low : 0 ≤ d ∧ d ≤ 14
theorem NamesTo.start (x : List UInt8) : NamesTo x 1 0 := ⟨fun i h1 h2 => by omega, by omega⟩
theorem NamesTo.yes {x : List UInt8} {j d : Int} (h1 : 1 ≤ j) (h2 : j ≤ 14) (h : nm j = x) : NamesTo x (j + 1) j :=
 ⟨fun i hi hj hx => nm_inj h1 h2 hi (by omega) (h.trans hx.symm), by omega⟩
theorem NamesTo.no {x : List UInt8} {j d : Int} (h : NamesTo x j d) (hn : nm j ≠ x) : NamesTo x (j + 1) d :=
 ⟨fun i hi hj hx => by
  rcases Int.lt_or_le i j with h2 | h2
  ·exact h.any i hi h2 hx
  ·have : i = j := by omega
   subst this
   exact absurd hx hn, h.low⟩
theorem NamesTo.done {x : List UInt8} {j d : Int} (h : NamesTo x j d) (hj : 14 < j) : Names x d := ⟨fun i h1 h2 hx => h.any i h1 (by omega) hx, h.low⟩
end Go.Proofs.YtkcechpaeilaeaaGreatDoor
