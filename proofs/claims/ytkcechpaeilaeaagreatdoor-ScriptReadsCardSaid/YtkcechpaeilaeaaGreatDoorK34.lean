/- Joined out of: V4 S13 V5 R23. -/
import Derived.Test.YtkcechpaeilaeaaGreatDoorK16
import Derived.Test.YtkcechpaeilaeaaGreatDoorK8
import Derived.Test.YtkcechpaeilaeaaGreatDoorK5
import Derived.Test.YtkcechpaeilaeaaGreatDoorK21
import Derived.Lib.SlBytesConst
import Derived.Test.YtkcechpaeilaeaaGreatDoorK30
import Derived.Test.YtkcechpaeilaeaaGreatDoorK31
import Derived.Test.YtkcechpaeilaeaaGreatDoorK33
set_option linter.unusedVariables false
set_option linter.unusedSimpArgs false
namespace Go.Proofs.YtkcechpaeilaeaaGreatDoor
open Go.RowKit
set_option maxRecDepth 100000
theorem cell_lt {w : World} {a : Addr} {v : Value} (h : w.cell? a = some v) : a.block < w.heap.size := by
 unfold World.cell? at h
 rcases Nat.lt_or_ge a.block w.heap.size with h1 | h1
 ·exact h1
 ·rw [Array.getElem?_eq_none h1] at h; simp at h
theorem range_below {w w' : World} {B b o : Nat} {cs : List Value} (h : w.rangeAt b o cs) (hk : Below B w w') (hb : b < B) : w'.rangeAt b o cs := fun j v hv => bsee hk (h j v hv) hb
def hd943 : List UInt8 := [112, 97, 103, 101, 115, 32, 57, 10, 99, 97, 99, 104, 101, 32, 51, 10, 99, 97, 112, 32, 52, 10]
theorem hd943_eq : [] ++ [112, 97, 103, 101, 115] ++ pkI [9] ++ [10] ++ [99, 97, 99, 104, 101] ++ pkI [3] ++ [10] ++ [99, 97, 112] ++ pkI [4] ++ [10] = hd943 := by
 have h9 : Lib.itoa 9 = [57] := digs_small (n := 9) (by decide)
 have h3 : Lib.itoa 3 = [51] := digs_small (n := 3) (by decide)
 have h4 : Lib.itoa 4 = [52] := digs_small (n := 4) (by decide)
 simp only [pkI, List.flatMap_cons, List.flatMap_nil, h9, h3, h4]
 rfl
theorem rowI_new (w : World) (ns : List Int) : rowI (w.alloc (.cells (ns.map (Value.int .i64)).toArray 3)) w.heap.size ns := _root_.Go.heap_alloc_new w _
theorem one_ok {z : Int} (h0 : 0 ≤ z) (h1 : z ≤ 9) : ∀ y ∈ [z], -9223372036854775808 ≤ y ∧ y ≤ 9223372036854775807 := by
 intro y hy; simp only [List.mem_singleton] at hy; subst hy; omega
theorem print1_one {w1 w2 : World} {l : List UInt8} {c : Nat} (h : Lx w1 w1.heap.size w2 l c) (hE : Ev w1) (hc : c ≤ 800000000) (s : List UInt8) (hs : s.length ≤ 10) (z : Int) (h0 : 0 ≤ z) (h1 : z ≤ 9) (r : Nat) (hr : r = w2.heap.size) :
  Calls Tryz.prog 65 #[.string ⟨s.toArray⟩, .slice (some ⟨r, 0, none⟩) 1 1, .pointer (some ⟨w1.heap.size, 0, none⟩)] (w2.alloc (.cells #[.int .i64 z] 3)) fun e w' => e = .returned (.tuple #[]) ∧ Lx w1 w1.heap.size w' (l ++ s ++ pkI [z] ++ [10]) (c + 111) := by
 subst hr
 refine (print1_at (h.keep ((Kp.refl _ w2).alloc (.cells #[.int .i64 z] 3))) hE rfl s 10 hs (by decide) hc [z] w2.heap.size (rowI_new w2 [z]) (Nat.ne_of_gt h.bd.lt) (by simp) (one_ok h0 h1)).mono ?_
 rintro e w' ⟨he, h2⟩
 exact ⟨he, h2.le (by simp)⟩
set_option maxHeartbeats 2000000 in
theorem print_one (a : A) (hm : may a) (hl : (line a).length ≤ 60000) (w : World) (hE : Ev w) (b : Nat) (At : Option Addr) (ct : Nat) (Ap : Option Addr) (cp : Nat) (hT : Bs w (.slice At a.t.length ct) (ints a.t)) (hP : Bs w (.slice Ap a.p.length cp) (ints a.p)) (hr : w.rangeAt b 0 [.int .i64 a.d, .string ⟨a.k.toArray⟩, .slice At a.t.length ct, .int .i64 a.n, .slice Ap a.p.length cp]) :
  Calls Tryz.prog 24 #[sv b] w fun e w' => e = .returned (.tuple #[.string ⟨(hd943 ++ line a ++ [10]).toArray⟩, .int .i64 0]) ∧ KZ w w' := by
 have hb : Hd (b < w.heap.size) := ⟨by
  have := hr 0 _ rfl
  exact cell_lt this⟩
 have cc : Hd (∀ w1, KZ (w.alloc (.cells #[.int .i64 9, .int .i64 3, .slice none 0 0, .slice none 0 0, .int .i64 4, .slice (some ⟨b, 0, none⟩) 1 1] 53)) w1 → w1.cell? ⟨w.heap.size, 0, none⟩ = some (.int .i64 9) ∧ w1.cell? ⟨w.heap.size, 1, none⟩ = some (.int .i64 3) ∧ w1.cell? ⟨w.heap.size, 2, none⟩ = some (.slice none 0 0) ∧ w1.cell? ⟨w.heap.size, 3, none⟩ = some (.slice none 0 0) ∧ w1.cell? ⟨w.heap.size, 4, none⟩ = some (.int .i64 4) ∧ w1.cell? ⟨w.heap.size, 5, none⟩ = some (.slice (some ⟨b, 0, none⟩) 1 1)) :=
  ⟨fun w1 hk => by
   refine ⟨?_, ?_, ?_, ?_, ?_, ?_⟩ <;> exact hk.see (by rw [Lib.cell_of_heap (_root_.Go.heap_alloc_new w _)]; rfl) id⟩
 have hc := Hd.mk (fun w1 (hk : KZ w w1) => scheck_one a hm w1 b At ct Ap cp (range_keep hr hk))
 have K0 : Hd (KZ w (w.alloc (.cells #[.int .i64 9, .int .i64 3, .slice none 0 0, .slice none 0 0, .int .i64 4, .slice (some ⟨b, 0, none⟩) 1 1] 53))) := ⟨(Kp.refl _ w).alloc _⟩
 have hr := Hd.mk hr
 have hE := Hd.mk hE
 have hT := Hd.mk hT
 have hP := Hd.mk hP
 have hl1 := Hd.mk hl
 have hm1 := Hd.mk hm
 clear hl hm
 go_enter Tryz.func24, Tryz.ntmps24
 go_wp2_with (go_at_call 26; refine (hc.out _ K0.out).mono ?_; rintro e w1 ⟨rfl, hk1⟩; have ccB : Hd (∀ w3, Below w1.heap.size w1 w3 → _) := ⟨fun w3 (hb3 : Below w1.heap.size w1 w3) => cc.out w3 (hk1.th (Kp.of_below hb3 _))⟩; obtain ⟨d0, d1, d2, d3, d4, d5⟩ := ccB.out _ ((Below.refl _ w1).alloc (Nat.le_refl _) (.cells #[.pointer none, .slice none 0 0] 64)); have K1 := Hd.mk (K0.out.th hk1); clear hk1; have E1 := Hd.mk (hE.out.keep K1.out); have L1 := Hd.mk (Lx.fresh w1); have hbw : Hd (b < w1.heap.size) := ⟨Nat.lt_of_lt_of_le hb.out K1.out.size⟩; have R1 := Hd.mk (range_keep hr.out K1.out); have T1 : Hd (Bs w1 _ _) := ⟨Bs.keep hT.out (fun b hb _ => K1.out.block b hb id)⟩; have P1 : Hd (Bs w1 _ _) := ⟨Bs.keep hP.out (fun b hb _ => K1.out.block b hb id)⟩; clear hc hE hT hP hr; dsimp only)
 refine (print1_one L1.out E1.out (by decide) [112, 97, 103, 101, 115] (by decide) 9 (by decide) (by decide) _ (by show _ = (w1.heap.push _).size; simp)).mono ?_
 rintro e w2 ⟨rfl, L2⟩
 have L2 := Hd.mk L2
 clear L1 d0 d1 d2 d3 d4 d5
 obtain ⟨d0, d1, d2, d3, d4, d5⟩ := ccB.out _ L2.out.below
 go_wp2_with fail
 refine (print1_one L2.out E1.out (by decide) [99, 97, 99, 104, 101] (by decide) 3 (by decide) (by decide) _ rfl).mono ?_
 rintro e w3 ⟨rfl, L3⟩
 have L3 := Hd.mk L3
 clear L2 d0 d1 d2 d3 d4 d5
 obtain ⟨d0, d1, d2, d3, d4, d5⟩ := ccB.out _ L3.out.below
 go_wp2_with fail
 refine (print1_one L3.out E1.out (by decide) [99, 97, 112] (by decide) 4 (by decide) (by decide) _ rfl).mono ?_
 rintro e w4 ⟨rfl, L4⟩
 have L4 : Hd (Lx w1 w1.heap.size w4 hd943 333) := ⟨hd943_eq ▸ L4⟩
 clear L3 d0 d1 d2 d3 d4 d5
 obtain ⟨d0, d1, d2, d3, d4, d5⟩ := ccB.out _ L4.out.below
 go_wp2_with fail
 go_loopw [38] (fun v38 wr => v38 = .int .i64 0 ∧ w4 = wr) (fun _ _ => 0)
 case atStart => exact ⟨rfl, rfl⟩
 case round =>
  obtain ⟨rfl, rfl⟩ := hrel
  go_wp2_with fail
  go_loopw [58] (fun v38 wr => v38 = .int .i64 0 ∧ w4 = wr) (fun _ _ => 0)
  case atStart => exact ⟨rfl, rfl⟩
  case round =>
   obtain ⟨rfl, rfl⟩ := hrel
   go_wp2_with fail
   go_loopw [72] (fun v72 wr => (v72 = .int .i64 0 ∧ w4 = wr) ∨ (v72 = .int .i64 1 ∧ Hd (Lx w1 w1.heap.size wr (hd943 ++ line a ++ [10]) 60334))) (fun v72 _ => 1 - (intOf v72).toNat)
   case atStart => exact .inl ⟨rfl, rfl⟩
   case round =>
    rcases hrel with ⟨rfl, rfl⟩ | ⟨rfl, L5⟩
    ·have R4 := Hd.mk (range_below R1.out L4.out.below hbw.out)
     have K5 : Hd (Lx w1 w1.heap.size (w4.alloc (.cells #[.int .i64 a.d, .string ⟨a.k.toArray⟩, .slice At a.t.length ct, .int .i64 a.n, .slice Ap a.p.length cp] 24)) hd943 333) := ⟨L4.out.keep ((Kp.refl _ w4).alloc _)⟩
     have hla := Hd.mk (line_at a (K5.out.ev rfl E1.out) At ct Ap cp (K5.out.bs rfl T1.out) (K5.out.bs rfl P1.out))
     rw [lineV_yes hm1.out] at hla
     obtain ⟨ln, hln⟩ : ∃ x, Hd (line a = x) := ⟨_, ⟨rfl⟩⟩
     rw [hln.out] at hla hl1
     clear hm1 T1 P1 R1 L4 d0 d1 d2 d3 d4 d5 cc ccB K0
     obtain ⟨d, k, t, n, p⟩ := a
     simp only at *
     go_wp2_with (first | (with_reducible refine wl_load_mid rfl 24 (.tmp 74) rfl b 0 rfl [.int .i64 d, .string ⟨k.toArray⟩, .slice At t.length ct, .int .i64 n, .slice Ap p.length cp] R4.out Tryz.underlying24 rfl (by kernel_rfl) ?_) | (go_at_call 9; refine hla.out.mono ?_; rintro e w5 ⟨rfl, hk5⟩; have L6 := Hd.mk (K5.out.keep hk5); clear hk5; dsimp only) | (go_at_call 65; go_loud ((with_reducible refine (print1_no L6.out _ 60000 hl1.out (by decide) (by decide)).mono ?_); rintro e w6 ⟨rfl, L7⟩; have L7 := Hd.mk L7; dsimp only)))
     exact ⟨.inr ⟨rfl, by rw [hln.out]; exact L7⟩, by simp [intOf]⟩
    ·have hlen : (hd943 ++ line a ++ [10]).length ≤ 60023 := by
      have := hl1.out
      simp only [List.length_append, List.length_singleton]
      have : hd943.length = 22 := rfl
      omega
     obtain ⟨tx, htx⟩ : ∃ x, Hd (hd943 ++ line a ++ [10] = x) := ⟨_, ⟨rfl⟩⟩
     rw [htx.out] at L5 hlen
     have hlen2 : (tx.length : Int) ≤ 60023 := by omega
     clear hlen L4 hl1 hm1
     go_wp2_with (first | (go_at_call 37; refine (blen_at L5.out.bd).mono ?_; rintro e w7 ⟨rfl, rfl⟩; dsimp only) | (go_at_call 36; refine (lx_end L5.out).mono ?_; rintro e w2 ⟨rfl, L8⟩; have L8 := Hd.mk L8; dsimp only))
     go_ret2
     rw [htx.out]
     exact ⟨rfl, K1.out.th (Kp.of_below L8.out.below _)⟩
set_option maxHeartbeats 2000000 in
theorem same_at (a : A) {w : World} {At Ap Bt Bp : Option Addr} {ct cp dt dp : Nat} (hT1 : Bs w (.slice At a.t.length ct) (ints a.t)) (hP1 : Bs w (.slice Ap a.p.length cp) (ints a.p)) (hT2 : Bs w (.slice Bt a.t.length dt) (ints a.t)) (hP2 : Bs w (.slice Bp a.p.length dp) (ints a.p)) :
  Calls Tryz.prog 13 #[.agg #[.int .i64 a.d, .string ⟨a.k.toArray⟩, .slice At a.t.length ct, .int .i64 a.n, .slice Ap a.p.length cp], .agg #[.int .i64 a.d, .string ⟨a.k.toArray⟩, .slice Bt a.t.length dt, .int .i64 a.n, .slice Bp a.p.length dp]] w fun e w' => e = .returned (.bool true) ∧ KZ w w' := by
 obtain ⟨d, k, t, n, p⟩ := a
 simp only at *
 have K1 : KZ w (w.alloc (.cells #[.int .i64 d, .string ⟨k.toArray⟩, .slice At t.length ct, .int .i64 n, .slice Ap p.length cp] 24)) := (Kp.refl _ w).alloc _
 obtain ⟨w2, hw2⟩ : ∃ w2, w2 = (w.alloc (.cells #[.int .i64 d, .string ⟨k.toArray⟩, .slice At t.length ct, .int .i64 n, .slice Ap p.length cp] 24)).alloc (.cells #[.int .i64 d, .string ⟨k.toArray⟩, .slice Bt t.length dt, .int .i64 n, .slice Bp p.length dp] 24) := ⟨_, rfl⟩
 have K2 : KZ w w2 := hw2 ▸ K1.th ((Kp.refl _ _).alloc _)
 have FA : Hd (Fa w2 w.heap.size (.int .i64 d) (.string ⟨k.toArray⟩) (.slice At t.length ct) (.int .i64 n) (.slice Ap p.length cp)) := ⟨hw2 ▸ (Fa.new w _ _ _ _ _).keep ((Kp.refl _ _).alloc _)⟩
 have FB : Hd (Fa w2 (w.heap.size + 1) (.int .i64 d) (.string ⟨k.toArray⟩) (.slice Bt t.length dt) (.int .i64 n) (.slice Bp p.length dp)) := ⟨by
  have := Fa.new (w.alloc (.cells #[.int .i64 d, .string ⟨k.toArray⟩, .slice At t.length ct, .int .i64 n, .slice Ap p.length cp] 24)) (.int .i64 d) (.string ⟨k.toArray⟩) (.slice Bt t.length dt) (.int .i64 n) (.slice Bp p.length dp)
  rw [← hw2] at this
  have e : (w.alloc (.cells #[.int .i64 d, .string ⟨k.toArray⟩, .slice At t.length ct, .int .i64 n, .slice Ap p.length cp] 24)).heap.size = w.heap.size + 1 := by
   show (w.heap.push _).size = _
   simp
  rw [e] at this
  exact this⟩
 have hT1 : Hd (Bs w2 (.slice At t.length ct) (ints t)) := ⟨Bs.keep hT1 (fun b hb _ => K2.block b hb id)⟩
 have hT2 : Hd (Bs w2 (.slice Bt t.length dt) (ints t)) := ⟨Bs.keep hT2 (fun b hb _ => K2.block b hb id)⟩
 have hP1 : Hd (Bs w2 (.slice Ap p.length cp) (ints p)) := ⟨Bs.keep hP1 (fun b hb _ => K2.block b hb id)⟩
 have hP2 : Hd (Bs w2 (.slice Bp p.length dp) (ints p)) := ⟨Bs.keep hP2 (fun b hb _ => K2.block b hb id)⟩
 have K2 := Hd.mk K2
 have hd : Hd (decide (d = d) = true) := ⟨decide_eq_true rfl⟩
 have hn : Hd (decide (n = n) = true) := ⟨decide_eq_true rfl⟩
 have hk : Hd ((k == k) = true) := ⟨beq_self_eq_true k⟩
 have ht : Hd ((t == t) = true) := ⟨beq_self_eq_true t⟩
 have hp : Hd ((p == p) = true) := ⟨beq_self_eq_true p⟩
 have hw2 := Hd.mk hw2
 clear K1
 go_enter Tryz.func13, Tryz.ntmps13
 go_wp2_with (first | (rewrite [← hw2.out]) | ((with_reducible refine wl_run rfl (ex_load _ 3 _ (.int .i64 d) rfl ⟨w.heap.size, 0, none⟩ U3 rfl rfl FA.out.c0) ?_); simp only [Act.put, uA, uB, uC]) | ((with_reducible refine wl_run rfl (ex_load _ 3 _ (.int .i64 d) rfl ⟨(w.heap.size + 1), 0, none⟩ U3 rfl rfl FB.out.c0) ?_); simp only [Act.put, uA, uB, uC]) | ((with_reducible refine wl_runG ?hw (ex_load _ 9 _ (.string ⟨k.toArray⟩) rfl ⟨w.heap.size, 1, none⟩ U9 rfl rfl FA.out.c1) ?_); (case hw => rfl); simp only [Act.put, uA, uB, uC]) | ((with_reducible refine wl_runG ?hw (ex_load _ 9 _ (.string ⟨k.toArray⟩) rfl ⟨(w.heap.size + 1), 1, none⟩ U9 rfl rfl FB.out.c1) ?_); (case hw => rfl); simp only [Act.put, uA, uB, uC]) | ((with_reducible refine wl_runG ?hw (ex_load _ 22 _ (.slice At t.length ct) rfl ⟨w.heap.size, 2, none⟩ U22 rfl rfl FA.out.c2) ?_); (case hw => rfl); simp only [Act.put, uA, uB, uC]) | ((with_reducible refine wl_runG ?hw (ex_load _ 22 _ (.slice Bt t.length dt) rfl ⟨(w.heap.size + 1), 2, none⟩ U22 rfl rfl FB.out.c2) ?_); (case hw => rfl); simp only [Act.put, uA, uB, uC]) | ((with_reducible refine wl_runG ?hw (ex_load _ 3 _ (.int .i64 n) rfl ⟨w.heap.size, 3, none⟩ U3 rfl rfl FA.out.c3) ?_); (case hw => rfl); simp only [Act.put, uA, uB, uC]) | ((with_reducible refine wl_runG ?hw (ex_load _ 3 _ (.int .i64 n) rfl ⟨(w.heap.size + 1), 3, none⟩ U3 rfl rfl FB.out.c3) ?_); (case hw => rfl); simp only [Act.put, uA, uB, uC]) | ((with_reducible refine wl_runG ?hw (ex_load _ 22 _ (.slice Ap p.length cp) rfl ⟨w.heap.size, 4, none⟩ U22 rfl rfl FA.out.c4) ?_); (case hw => rfl); simp only [Act.put, uA, uB, uC]) | ((with_reducible refine wl_runG ?hw (ex_load _ 22 _ (.slice Bp p.length dp) rfl ⟨(w.heap.size + 1), 4, none⟩ U22 rfl rfl FB.out.c4) ?_); (case hw => rfl); simp only [Act.put, uA, uB, uC]) | ((with_reducible refine wl_run rfl (ex_eql _ 3 3 (.tmp 6) (.tmp 8) rfl .i64 d d rfl rfl true hd.out) ?_); simp only [Act.put, uA, uB, uC]) | ((with_reducible refine wl_runG ?hw (ex_seql _ 9 9 (.tmp 12) (.tmp 14) rfl k k true hk.out rfl rfl) ?_); (case hw => rfl); simp only [Act.put, uA, uB, uC]) | ((with_reducible refine wl_runG ?hw (ex_tostr _ 22 9 5 (.tmp 19) rfl U22 U5 U9 (.slice At t.length ct) t hT1.out rfl) ?_); (case hw => rfl); simp only [Act.put, uA, uB, uC]) | ((with_reducible refine wl_runG ?hw (ex_tostr _ 22 9 5 (.tmp 22) rfl U22 U5 U9 (.slice Bt t.length dt) t hT2.out rfl) ?_); (case hw => rfl); simp only [Act.put, uA, uB, uC]) | ((with_reducible refine wl_runG ?hw (ex_seql _ 9 9 (.tmp 20) (.tmp 23) rfl t t true ht.out rfl rfl) ?_); (case hw => rfl); simp only [Act.put, uA, uB, uC]) | ((with_reducible refine wl_runG ?hw (ex_eql _ 3 3 (.tmp 28) (.tmp 30) rfl .i64 n n rfl rfl true hn.out) ?_); (case hw => rfl); simp only [Act.put, uA, uB, uC]) | ((with_reducible refine wl_runG ?hw (ex_tostr _ 22 9 5 (.tmp 35) rfl U22 U5 U9 (.slice Ap p.length cp) p hP1.out rfl) ?_); (case hw => rfl); simp only [Act.put, uA, uB, uC]) | ((with_reducible refine wl_runG ?hw (ex_tostr _ 22 9 5 (.tmp 38) rfl U22 U5 U9 (.slice Bp p.length dp) p hP2.out rfl) ?_); (case hw => rfl); simp only [Act.put, uA, uB, uC]) | ((with_reducible refine wl_runG ?hw (ex_seql _ 9 9 (.tmp 36) (.tmp 39) rfl p p true hp.out rfl rfl) ?_); (case hw => rfl); simp only [Act.put, uA, uB, uC]))
 go_ret
 exact ⟨rfl, K2.out⟩
def a0 : A := ⟨4, [97], [116, 104, 101, 10, 99, 97, 116], 0, []⟩
def ln0 : List UInt8 := [97, 100, 100, 32, 97, 32, 116, 104, 101, 92, 48, 97, 99, 97, 116]
theorem line_a0 : line a0 = ln0 := by decide
theorem may_a0 : may a0 := by decide
theorem says_a0 : Says ln0 a0 true := ⟨fun _ => ⟨may_a0, line_a0⟩, fun h => by cases h⟩
theorem text_a0 : hd943 ++ line a0 ++ [10] = [112, 97, 103, 101, 115, 32, 57, 10, 99, 97, 99, 104, 101, 32, 51, 10, 99, 97, 112, 32, 52, 10, 97, 100, 100, 32, 97, 32, 116, 104, 101, 92, 48, 97, 99, 97, 116, 10] := by rw [line_a0]; rfl
theorem bs_new (w : World) : Bs (w.alloc (.cells #[.int .u8 116, .int .u8 104, .int .u8 101, .int .u8 10, .int .u8 99, .int .u8 97, .int .u8 116] 5 (7, 8))) (.slice (some ⟨w.heap.size, 0, none⟩) 7 7) (ints [116, 104, 101, 10, 99, 97, 116]) := by
 refine ⟨_, _, rfl, by decide, .inr ⟨w.heap.size, 0, rfl, fun j v hv => ?_⟩⟩
 rw [Lib.cell_of_heap (_root_.Go.heap_alloc_new w _)]
 simpa [u8s, ints] using hv
theorem bs_nil (w : World) : Bs w (.slice none 0 0) (ints []) := ⟨none, 0, rfl, Nat.le_refl _, .inl rfl⟩
theorem bs_kp {w w' : World} {v : Value} {l : List Int} (h : Bs w v l) (hk : KZ w w') : Bs w' v l := Bs.keep h (fun b hb _ => hk.block b hb id)
abbrev ag0 (At : Option Addr) (ct : Nat) (Ap : Option Addr) (cp : Nat) : Value := .agg #[.int .i64 4, .string ⟨#[97]⟩, .slice At 7 ct, .int .i64 0, .slice Ap 0 cp]
theorem line0_at {w : World} (hE : Ev w) (At : Option Addr) (ct : Nat) (Ap : Option Addr) (cp : Nat) (hT : Bs w (.slice At 7 ct) (ints [116, 104, 101, 10, 99, 97, 116])) (hP : Bs w (.slice Ap 0 cp) (ints [])) :
  Calls Tryz.prog 9 #[ag0 At ct Ap cp] w fun e w' => e = .returned (.tuple #[.string ⟨#[97, 100, 100, 32, 97, 32, 116, 104, 101, 92, 48, 97, 99, 97, 116]⟩, .int .i64 0]) ∧ KZ w w' := by
 have h := line_at a0 hE At ct Ap cp hT hP
 rw [lineV_yes may_a0, line_a0] at h
 exact h
theorem act0_at {w : World} (hE : Ev w) : Calls Tryz.prog 11 #[.string ⟨#[97, 100, 100, 32, 97, 32, 116, 104, 101, 92, 48, 97, 99, 97, 116]⟩] w fun e w' => (∃ (At : Option Addr) (ct : Nat) (Ap : Option Addr) (cp : Nat), e = .returned (.tuple #[ag0 At ct Ap cp, .int .i64 0]) ∧ Bs w' (.slice At 7 ct) (ints [116, 104, 101, 10, 99, 97, 116]) ∧ Bs w' (.slice Ap 0 cp) (ints [])) ∧ KZ w w' := by
 refine (act_at (l := ln0) (by decide) hE).mono ?_
 rintro e w' ⟨⟨a, At, ct, Ap, cp, ok, rfl, hs, _, hT, hP⟩, hk⟩
 obtain ⟨h1, h2⟩ := says_one hs says_a0
 subst h1
 obtain rfl := h2 rfl
 exact ⟨⟨At, ct, Ap, cp, rfl, hT.bs, hP.bs⟩, hk⟩
theorem same0_at {w : World} {At Ap Bt Bp : Option Addr} {ct cp dt dp : Nat} (hT1 : Bs w (.slice At 7 ct) (ints [116, 104, 101, 10, 99, 97, 116])) (hP1 : Bs w (.slice Ap 0 cp) (ints [])) (hT2 : Bs w (.slice Bt 7 dt) (ints [116, 104, 101, 10, 99, 97, 116])) (hP2 : Bs w (.slice Bp 0 dp) (ints [])) :
 Calls Tryz.prog 13 #[ag0 At ct Ap cp, ag0 Bt dt Bp dp] w fun e w' => e = .returned (.bool true) ∧ KZ w w' := same_at a0 hT1 hP1 hT2 hP2
theorem print0_at (w : World) (hE : Ev w) (b : Nat) (At : Option Addr) (ct : Nat) (Ap : Option Addr) (cp : Nat) (hT : Bs w (.slice At 7 ct) (ints [116, 104, 101, 10, 99, 97, 116])) (hP : Bs w (.slice Ap 0 cp) (ints [])) (hr : w.rangeAt b 0 [.int .i64 4, .string ⟨#[97]⟩, .slice At 7 ct, .int .i64 0, .slice Ap 0 cp]) :
  Calls Tryz.prog 24 #[sv b] w fun e w' => e = .returned (.tuple #[.string ⟨#[112, 97, 103, 101, 115, 32, 57, 10, 99, 97, 99, 104, 101, 32, 51, 10, 99, 97, 112, 32, 52, 10, 97, 100, 100, 32, 97, 32, 116, 104, 101, 92, 48, 97, 99, 97, 116, 10]⟩, .int .i64 0]) ∧ KZ w w' := by
 have h := print_one a0 may_a0 (by rw [line_a0]; decide) w hE b At ct Ap cp hT hP hr
 rw [text_a0] at h
 exact h
theorem row_new (w : World) (v0 v1 v2 v3 v4 : Value) : (w.alloc (.cells #[v0, v1, v2, v3, v4] 24)).rangeAt w.heap.size 0 [v0, v1, v2, v3, v4] := fun j v hv => by
 rw [Lib.cell_of_heap (_root_.Go.heap_alloc_new w _)]
 simpa using hv
theorem row_sees {w w' : World} {b : Nat} {v0 v1 v2 v3 v4 : Value} (h : w.rangeAt b 0 [v0, v1, v2, v3, v4]) (hk : KZ w w') : w'.cell? ⟨b, 0, none⟩ = some v0 ∧ w'.cell? ⟨b, 1, none⟩ = some v1 ∧ w'.cell? ⟨b, 2, none⟩ = some v2 ∧ w'.cell? ⟨b, 3, none⟩ = some v3 ∧ w'.cell? ⟨b, 4, none⟩ = some v4 :=
 ⟨hk.see (h 0 v0 rfl) id, hk.see (h 1 v1 rfl) id, hk.see (h 2 v2 rfl) id, hk.see (h 3 v3 rfl) id, hk.see (h 4 v4 rfl) id⟩
set_option maxHeartbeats 4000000 in
theorem live_at {w : World} (hE : Ev w) : Calls Tryz.prog 8 #[] w fun e w' => e = .returned (.bool true) ∧ KZ w w' := by
 have hE := Hd.mk hE
 have kc := fun (w : World) (C : Array Value) (n c : Nat) => Lib.run_convert_bytes_const (P := Tryz.prog) w 22 5 C n c U22 U5
 have B0 := Hd.mk (bs_new w)
 have K0 : Hd (KZ w (w.alloc (.cells #[.int .u8 116, .int .u8 104, .int .u8 101, .int .u8 10, .int .u8 99, .int .u8 97, .int .u8 116] 5 (7, 8)))) := ⟨(Kp.refl _ w).alloc _⟩
 have R1 := Hd.mk (row_new (w.alloc (.cells #[.int .u8 116, .int .u8 104, .int .u8 101, .int .u8 10, .int .u8 99, .int .u8 97, .int .u8 116] 5 (7, 8))) (.int .i64 4) (.string ⟨#[97]⟩) (.slice (some ⟨w.heap.size, 0, none⟩) 7 7) (.int .i64 0) (.slice none 0 0))
 have K1 : Hd (KZ w ((w.alloc (.cells #[.int .u8 116, .int .u8 104, .int .u8 101, .int .u8 10, .int .u8 99, .int .u8 97, .int .u8 116] 5 (7, 8))).alloc (.cells #[.int .i64 4, .string ⟨#[97]⟩, .slice (some ⟨w.heap.size, 0, none⟩) 7 7, .int .i64 0, .slice none 0 0] 24))) := ⟨K0.out.alloc _⟩
 have K01 : Hd (KZ (w.alloc (.cells #[.int .u8 116, .int .u8 104, .int .u8 101, .int .u8 10, .int .u8 99, .int .u8 97, .int .u8 116] 5 (7, 8))) ((w.alloc (.cells #[.int .u8 116, .int .u8 104, .int .u8 101, .int .u8 10, .int .u8 99, .int .u8 97, .int .u8 116] 5 (7, 8))).alloc (.cells #[.int .i64 4, .string ⟨#[97]⟩, .slice (some ⟨w.heap.size, 0, none⟩) 7 7, .int .i64 0, .slice none 0 0] 24))) := ⟨(Kp.refl _ _).alloc _⟩
 have hb : Hd ((w.alloc (.cells #[.int .u8 116, .int .u8 104, .int .u8 101, .int .u8 10, .int .u8 99, .int .u8 97, .int .u8 116] 5 (7, 8))).heap.size = w.heap.size + 1) := ⟨by show (w.heap.push _).size = _; simp⟩
 rw [hb.out] at R1
 have B1 := Hd.mk (bs_kp B0.out K01.out)
 go_enter Tryz.func8, Tryz.ntmps8
 go_wp2_with fail
 refine (line0_at (hE.out.keep K1.out) _ _ _ _ B1.out (bs_nil _)).mono ?_
 rintro e w2 ⟨rfl, k2⟩
 have B2 := Hd.mk (bs_kp B1.out k2)
 have K2 := Hd.mk (K1.out.th k2)
 have R2 := Hd.mk (range_keep R1.out k2)
 clear B0 B1 K0 K1 K01 R1 k2
 go_wp2_with fail
 refine (act0_at (hE.out.keep K2.out)).mono ?_
 rintro e w3 ⟨⟨At, ct, Ap, cp, rfl, hT, hP⟩, k3⟩
 have B3 := Hd.mk (bs_kp B2.out k3)
 have K3 := Hd.mk (K2.out.th k3)
 have R3 := Hd.mk (range_keep R2.out k3)
 have T3 := Hd.mk hT
 have P3 := Hd.mk hP
 have K4 : Hd (KZ w3 (w3.alloc (.cells #[.int .i64 4, .string ⟨#[97]⟩, .slice At 7 ct, .int .i64 0, .slice Ap 0 cp] 24))) := ⟨(Kp.refl _ _).alloc _⟩
 have R4 := Hd.mk (row_new w3 (.int .i64 4) (.string ⟨#[97]⟩) (.slice At 7 ct) (.int .i64 0) (.slice Ap 0 cp))
 obtain ⟨d0, d1, d2, d3, d4⟩ := row_sees R3.out K4.out
 clear B2 K2 R2 k3 hT hP
 go_wp2_with fail
 have hs4 : Hd ((w3.alloc (.cells #[.int .i64 4, .string ⟨#[97]⟩, .slice At 7 ct, .int .i64 0, .slice Ap 0 cp] 24)).heap.size = w3.heap.size + 1) := ⟨by show (w3.heap.push _).size = _; simp⟩
 have R5 := Hd.mk (row_new (w3.alloc (.cells #[.int .i64 4, .string ⟨#[97]⟩, .slice At 7 ct, .int .i64 0, .slice Ap 0 cp] 24)) (.int .i64 4) (.string ⟨#[97]⟩) (.slice (some ⟨w.heap.size, 0, none⟩) 7 7) (.int .i64 0) (.slice none 0 0))
 rw [hs4.out] at R5
 have K5 : Hd (KZ w3 ((w3.alloc (.cells #[.int .i64 4, .string ⟨#[97]⟩, .slice At 7 ct, .int .i64 0, .slice Ap 0 cp] 24)).alloc (.cells #[.int .i64 4, .string ⟨#[97]⟩, .slice (some ⟨w.heap.size, 0, none⟩) 7 7, .int .i64 0, .slice none 0 0] 24))) := ⟨K4.out.alloc _⟩
 have K45 : Hd (KZ (w3.alloc (.cells #[.int .i64 4, .string ⟨#[97]⟩, .slice At 7 ct, .int .i64 0, .slice Ap 0 cp] 24)) ((w3.alloc (.cells #[.int .i64 4, .string ⟨#[97]⟩, .slice At 7 ct, .int .i64 0, .slice Ap 0 cp] 24)).alloc (.cells #[.int .i64 4, .string ⟨#[97]⟩, .slice (some ⟨w.heap.size, 0, none⟩) 7 7, .int .i64 0, .slice none 0 0] 24))) := ⟨(Kp.refl _ _).alloc _⟩
 have K03 := Hd.mk (K3.out.th K5.out)
 refine (print0_at _ (hE.out.keep K03.out) _ _ _ _ _ (bs_kp B3.out K5.out) (bs_nil _) R5.out).mono ?_
 rintro e w5 ⟨rfl, k5⟩
 have B5 := Hd.mk (bs_kp (bs_kp B3.out K5.out) k5)
 have T5 := Hd.mk (bs_kp (bs_kp T3.out K5.out) k5)
 have P5 := Hd.mk (bs_kp (bs_kp P3.out K5.out) k5)
 have kk5 := Hd.mk (K03.out.th k5)
 clear d0 d1 d2 d3 d4
 obtain ⟨d0, d1, d2, d3, d4⟩ := row_sees R3.out (K5.out.th k5)
 obtain ⟨f0, f1, f2, f3, f4⟩ := row_sees R4.out (K45.out.th k5)
 clear hb hs4 R5 K5 K45 K03 B3 R3 R4 K4 K3 T3 P3 k5 kc
 go_wp2_with (go_at_call 13; refine (same0_at B5.out (bs_nil _) T5.out P5.out).mono ?_; rintro e w6 ⟨rfl, k6⟩; have K6 := Hd.mk (kk5.out.th k6); clear k6; dsimp only)
 go_ret
 exact ⟨rfl, K6.out⟩
theorem POut.few {t : List UInt8} {L : List (Nat × List UInt8)} {N : Nat} {s : Sc} {n c : Int} (h : POut t L N s n c) : s.fl.length ≤ 1000000 ∧ s.ss.length ≤ 1000000 ∧ s.ac.length ≤ 1000000 := by
 have hz : z0.fl.length ≤ 1000000 ∧ z0.ss.length ≤ 1000000 ∧ z0.ac.length ≤ 1000000 := by simp [z0]
 rcases h with ⟨_, rfl, _⟩ | ⟨_, ⟨_, _, _, _, _, _, _, rfl, _⟩ | ⟨_, _, _, rfl, _⟩ | ⟨h, _⟩⟩
 ·exact hz
 ·exact hz
 ·exact hz
 ·have := h.inv.ok.bnd
  have h1 := this.nf
  have h2 := this.ns
  have h3 := this.na
  omega
theorem blk_new6 {w w' : World} {cs : List Value} (h : KZ (w.alloc (.cells cs.toArray 53)) w') (hl : cs.length = 6) : w'.rangeAt w.heap.size 0 cs := by
 have := Blk.range (h.keeps (Blk.new w cs 53) id) 0 6
 rwa [List.drop_zero, List.take_of_length_le (by omega)] at this
set_option maxHeartbeats 8000000 in
theorem scriptreads_at (t : List UInt8) {w : World} (hE : Ev w) : Calls Tryz.prog 6 #[.string ⟨t.toArray⟩] w fun e w' => e = .returned (.bool true) ∧ KZ w w' := by
 have hlv := Hd.mk (fun u (hu : KZ w u) => live_at (hE.keep hu))
 have hpa := Hd.mk (fun u (hu : KZ w u) => parse_at t (hE.keep hu))
 have hpb := Hd.mk (fun u => rparse_at t u)
 obtain ⟨L, hL⟩ : ∃ x, Hd (saidS t = x) := ⟨_, ⟨rfl⟩⟩
 obtain ⟨N, hN⟩ : ∃ x, Hd ((lnGo [] t).length = x) := ⟨_, ⟨rfl⟩⟩
 unfold PaR at hpa hpb
 rw [hL.out, hN.out] at hpa hpb
 obtain ⟨q1, h1⟩ : ∃ q, Hd (decide (20000 < (t.length : Int)) = q) := ⟨_, ⟨rfl⟩⟩
 obtain ⟨q2, h2⟩ : ∃ q, Hd (decide ((t.length : Int) ≤ 65536) = q) := ⟨_, ⟨rfl⟩⟩
 obtain ⟨q3, h3⟩ : ∃ q, Hd (decide (65536 < (t.length : Int)) = q) := ⟨_, ⟨rfl⟩⟩
 have hq : (q1 = true ∧ q2 = true) ∨ (q1 = true ∧ q2 = false ∧ q3 = true) ∨ (q1 = false ∧ q3 = false) := by
  rw [← h1.out, ← h2.out, ← h3.out]
  by_cases g1 : t.length ≤ 20000
  ·exact .inr (.inr ⟨decide_eq_false (by omega), decide_eq_false (by omega)⟩)
  ·by_cases g2 : t.length ≤ 65536
   ·exact .inl ⟨decide_eq_true (by omega), decide_eq_true (by omega)⟩
   ·exact .inr (.inl ⟨decide_eq_true (by omega), decide_eq_false (by omega), decide_eq_true (by omega)⟩)
 clear hL hN hE
 rcases hq with ⟨rfl, rfl⟩ | ⟨rfl, rfl, rfl⟩ | ⟨rfl, rfl⟩
 ·go_enter Tryz.func6, Tryz.ntmps6
  go_wp2_with fail
  refine (hlv.out w (Kp.refl _ w)).mono ?_
  rintro e w1 ⟨rfl, k1⟩
  have k1 := Hd.mk k1
  go_wp2_with (first | (simp only [Bool.false_eq_true, if_false]) | ((refine wlG (ex_gtr _ 3 3 (.tmp 13) (.const (.int .i64 20000)) rfl .i64 (t.length : Int) 20000 rfl rfl _ h1.out) ?_)) | ((refine wlG (ex_leq _ 3 3 (.tmp 17) (.const (.int .i64 65536)) rfl .i64 (t.length : Int) 65536 rfl rfl _ h2.out) ?_)))
  refine (hlv.out w1 k1.out).mono ?_
  rintro e w2 ⟨rfl, k2⟩
  have k2 := Hd.mk (k1.out.th k2)
  go_wp2_with fail
  go_ret
  exact ⟨rfl, k2.out⟩
 ·go_enter Tryz.func6, Tryz.ntmps6
  go_wp2_with fail
  refine (hlv.out w (Kp.refl _ w)).mono ?_
  rintro e w1 ⟨rfl, k1⟩
  have k1 := Hd.mk k1
  go_wp2_with (first | (simp only [Bool.false_eq_true, if_false]) | ((refine wlG (ex_gtr _ 3 3 (.tmp 13) (.const (.int .i64 20000)) rfl .i64 (t.length : Int) 20000 rfl rfl _ h1.out) ?_)) | ((refine wlG (ex_leq _ 3 3 (.tmp 17) (.const (.int .i64 65536)) rfl .i64 (t.length : Int) 65536 rfl rfl _ h2.out) ?_)))
  refine (hpa.out w1 k1.out).mono ?_
  rintro e w2 ⟨⟨s, F, S, X, cF, cS, cA, n, c, rfl, hR, hP⟩, k2⟩
  have hlen : 65536 < t.length := by have := of_decide_eq_true h3.out; omega
  obtain ⟨rfl, rfl, rfl⟩ : s = z0 ∧ n = 0 ∧ c = 3 := by
   rcases hP with ⟨_, e1, e2, e3⟩ | ⟨h, _⟩
   ·exact ⟨e1, e2, e3⟩
   ·omega
  simp only [z0, List.length_nil] at hR ⊢
  have k3 : Hd (KZ w (w2.alloc (.cells #[.int .i64 0, .int .i64 0, .slice F 0 cF, .slice S 0 cS, .int .i64 0, .slice X 0 cA] 53))) := ⟨(k1.out.th k2).alloc _⟩
  have hr : Hd ((w2.alloc (.cells #[.int .i64 0, .int .i64 0, .slice F 0 cF, .slice S 0 cS, .int .i64 0, .slice X 0 cA] 53)).rangeAt w2.heap.size 0 [.int .i64 0, .int .i64 0, .slice F 0 cF, .slice S 0 cS, .int .i64 0, .slice X 0 cA]) := ⟨blk_new6 (Kp.refl _ _) rfl⟩
  have hsame := Hd.mk (scsame_at (w := w2.alloc (.cells #[.int .i64 0, .int .i64 0, .slice F 0 cF, .slice S 0 cS, .int .i64 0, .slice X 0 cA] 53)) z0 z0 (by simp [z0]) (by simp [z0]) (by simp [z0]) (hR.keep ((Kp.refl _ w2).alloc _)) (scr_z0 _))
  replace hR := Hd.mk hR
  clear hP k2 hlen hpa hpb hlv
  go_wp2_with (first | ((with_reducible refine wl_run rfl (ex_gtr _ 3 3 (.tmp 29) (.const (.int .i64 65536)) rfl .i64 (t.length : Int) 65536 rfl rfl _ h3.out) ?_)))
  refine (hsame.out).mono ?_
  rintro e w4 ⟨⟨b, rfl, hb⟩, k4⟩
  obtain rfl : b = true := hb.2 (by first | rfl | trivial)
  have k5 := Hd.mk (k3.out.th k4)
  clear hb k4 k3
  go_wp2_with fail
  go_ret
  exact ⟨rfl, k5.out⟩
 ·go_enter Tryz.func6, Tryz.ntmps6
  go_wp2_with fail
  refine (hlv.out w (Kp.refl _ w)).mono ?_
  rintro e w1 ⟨rfl, k1⟩
  have k1 := Hd.mk k1
  go_wp2_with (first | (simp only [Bool.false_eq_true, if_false]) | ((refine wlG (ex_gtr _ 3 3 (.tmp 13) (.const (.int .i64 20000)) rfl .i64 (t.length : Int) 20000 rfl rfl _ h1.out) ?_)))
  refine (hpa.out w1 k1.out).mono ?_
  rintro e w2 ⟨⟨s, F, S, X, cF, cS, cA, n, c, rfl, hR, hP⟩, k2⟩
  have k3 : Hd (KZ w (w2.alloc (.cells #[.int .i64 s.pages, .int .i64 s.cache, .slice F s.fl.length cF, .slice S s.ss.length cS, .int .i64 s.cap, .slice X s.ac.length cA] 53))) := ⟨(k1.out.th k2).alloc _⟩
  replace hR := Hd.mk (hR.keep ((Kp.refl _ w2).alloc (.cells #[.int .i64 s.pages, .int .i64 s.cache, .slice F s.fl.length cF, .slice S s.ss.length cS, .int .i64 s.cap, .slice X s.ac.length cA] 53)))
  replace hP := Hd.mk hP
  clear k2 hpa hlv
  go_wp2_with (first | (simp only [Bool.false_eq_true, if_false]) | ((with_reducible refine wl_run rfl (ex_gtr _ 3 3 (.tmp 29) (.const (.int .i64 65536)) rfl .i64 (t.length : Int) 65536 rfl rfl _ h3.out) ?_)))
  refine (hpb.out _).mono ?_
  rintro e w4 ⟨⟨s2, F2, S2, X2, dF, dS, dA, n2, c2, rfl, hR2, hP2⟩, k4⟩
  obtain ⟨e1, e2, e3⟩ := hP.out.one hP2
  subst e1 e2 e3
  obtain ⟨f1, f2, f3⟩ := hP2.few
  have k5 : Hd (KZ w (w4.alloc (.cells #[.int .i64 s.pages, .int .i64 s.cache, .slice F2 s.fl.length dF, .slice S2 s.ss.length dS, .int .i64 s.cap, .slice X2 s.ac.length dA] 53))) := ⟨(k3.out.th k4).alloc _⟩
  have r1 : Hd ((w4.alloc (.cells #[.int .i64 s.pages, .int .i64 s.cache, .slice F2 s.fl.length dF, .slice S2 s.ss.length dS, .int .i64 s.cap, .slice X2 s.ac.length dA] 53)).rangeAt w2.heap.size 0 (r6 s F cF S cS X cA)) := ⟨blk_new6 (k4.alloc _) rfl⟩
  have r2 : Hd ((w4.alloc (.cells #[.int .i64 s.pages, .int .i64 s.cache, .slice F2 s.fl.length dF, .slice S2 s.ss.length dS, .int .i64 s.cap, .slice X2 s.ac.length dA] 53)).rangeAt w4.heap.size 0 [.int .i64 s.pages, .int .i64 s.cache, .slice F2 s.fl.length dF, .slice S2 s.ss.length dS, .int .i64 s.cap, .slice X2 s.ac.length dA]) := ⟨blk_new6 (Kp.refl _ _) rfl⟩
  have hsame := Hd.mk (rscsame_at (w := w4.alloc (.cells #[.int .i64 s.pages, .int .i64 s.cache, .slice F2 s.fl.length dF, .slice S2 s.ss.length dS, .int .i64 s.cap, .slice X2 s.ac.length dA] 53)) s s f1 f2 f3 (hR.out.keep (k4.alloc _)) (hR2.keep ((Kp.refl _ w4).alloc _)))
  have en : Hd (decide (n = n) = true) := ⟨by simp⟩
  have ec : Hd (decide (c = c) = true) := ⟨by simp⟩
  clear hP hP2 k4 hpb hR2 f1 f2 f3
  go_wp2_with (first | (simp only [Bool.false_eq_true, if_false]) | ((refine wl_load_mid rfl 53 (.tmp 3) rfl w2.heap.size 0 rfl (r6 s F cF S cS X cA) r1.out Tryz.underlying53 rfl (by kernel_rfl) ?_)) | ((refine wl_load_mid rfl 53 (.tmp 6) rfl w4.heap.size 0 rfl [.int .i64 s.pages, .int .i64 s.cache, .slice F2 s.fl.length dF, .slice S2 s.ss.length dS, .int .i64 s.cap, .slice X2 s.ac.length dA] r2.out Tryz.underlying53 rfl (by kernel_rfl) ?_)))
  refine (hsame.out).mono ?_
  rintro e w6 ⟨⟨b, rfl, hb⟩, k6⟩
  obtain rfl : b = true := hb.2 (by first | rfl | trivial)
  have k7 := Hd.mk (k5.out.th k6)
  clear hb k6 k5
  go_wp2_with (first | (simp only [Bool.false_eq_true, if_false]))
  go_ret
  exact ⟨rfl, k7.out⟩
end Go.Proofs.YtkcechpaeilaeaaGreatDoor
