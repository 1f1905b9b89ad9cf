/- Joined out of: R15 R8 G4. -/
import Derived.Test.YtkcechpaeilaeaaGreatDoorK22
import Derived.Test.YtkcechpaeilaeaaGreatDoorK14
import Derived.Test.YtkcechpaeilaeaaGreatDoorK5
import Derived.RangeFuncKeeps
import Derived.RangeFuncLeaves
import Derived.RangeFuncRecord
import Derived.OwnWalkIn
import Derived.TacticsInMore
import Derived.LoopNIn
import Derived.LoopIn
import Derived.Scope
set_option linter.unusedVariables false
set_option linter.unusedSimpArgs false
namespace Go.Proofs.YtkcechpaeilaeaaGreatDoor
open Go.RowKit
set_option maxRecDepth 100000
def Z3i : List Value := [.int .i64 0, .int .i64 0, .int .i64 0]
structure Th (B : Nat) (w wr : World) (cs : List Value) : Prop where
 z2 : Blk wr B Z3i 126
 z4 : Blk wr (B + 1) cs 126
 kp : KZ w wr
 sz : w.heap.size = B
theorem Th.put {B : Nat} {w wr : World} {cs : List Value} (h : Th B w wr cs) (i : Nat) (v : Value) : Th B w (wr.setCell ⟨B + 1, i, none⟩ v) (cs.set i v) :=
 ⟨h.z2.other _ _ (by show B ≠ B + 1; omega), h.z4.set i v, h.kp.setCell _ _ (.inl (by rw [h.sz]; show B ≤ B + 1; omega)), h.sz⟩
theorem Th.keep {B : Nat} {w wr w' : World} {cs : List Value} (h : Th B w wr cs) (k : KZ wr w') : Th B w w' cs := ⟨k.keeps h.z2 id, k.keeps h.z4 id, h.kp.th k, h.sz⟩
theorem Th.start (w : World) : Th w.heap.size w ((w.alloc (.cells #[.int .i64 0, .int .i64 0, .int .i64 0] 126)).alloc (.cells #[.int .i64 0, .int .i64 0, .int .i64 0] 126)) [.int .i64 0, .int .i64 0, .int .i64 0] := by
 have b2 := Blk.new (w.alloc (.cells #[.int .i64 0, .int .i64 0, .int .i64 0] 126)) [.int .i64 0, .int .i64 0, .int .i64 0] 126
 rw [size_alloc] at b2
 exact ⟨(Blk.new w Z3i 126).alloc _, b2, ((Kp.refl _ w).alloc _).alloc _, rfl⟩
theorem results_2a {fn : Func} {p u : Tmp} (h : fn.results = #[.cell p 126, .tmp u]) (tmps : Array Value) (w : World) (Z : Nat) (cs : List Value) (v : Value) (hp : tmps.getD p undef = .pointer (some ⟨Z, 0, none⟩)) (hu : tmps.getD u undef = v)
  (hr : w.rangeAt Z 0 cs) (hl : cs.length = 3) : (results fn tmps).run Tryz.prog w = .ok (.tuple #[.agg cs.toArray, v]) w := by
 have e1 := run_loadVar_mid w Z 0 126 cs _ hr Tryz.underlying126 rfl (by rw [hl]; kernel_rfl)
 simp only [results, h]
 simp at hp hu
 simp [Sem.run_bind, hp, hu, asAddr, e1, Result.andThen]
theorem Th.out {B : Nat} {w wr w2 : World} {cs cs' : List Value} (h : Th B w wr cs) (hl : cs'.length = 3) (hb : Blk w2 B (splice Z3i 0 cs') 126) (k : Kp (· = B) wr w2) : w2.rangeAt B 0 cs' ∧ KZ w w2 := by
 have hsp : splice Z3i 0 cs' = cs' := by
  unfold splice
  simp [Z3i, hl]
 rw [hsp] at hb
 have := hb.range 0 3
 rw [List.drop_zero, List.take_of_length_le (by omega)] at this
 exact ⟨this, h.kp.andThen k (fun i hi e => by rw [h.sz] at hi; omega)⟩
def ThR (r : List UInt8) (w w' : World) (e : Ending) : Prop :=
 (∃ (d0 d1 d2 : Int) (b : Bool), e = .returned (.tuple #[.agg #[.int .i64 d0, .int .i64 d1, .int .i64 d2], .bool b]) ∧ (b = true ↔ (0 ≤ dig (wd r) ∧ 0 ≤ dig (wd (rs r)) ∧ 0 ≤ dig (wd (rs (rs r))) ∧ rs (rs (rs r)) = [])) ∧ (b = true → d0 = dig (wd r) ∧ d1 = dig (wd (rs r)) ∧ d2 = dig (wd (rs (rs r))))) ∧ KZ w w'
set_option maxHeartbeats 8000000 in
theorem three_at (r : List UInt8) (hr : r.length < 70000) (w : World) : Calls Tryz.prog 100 #[.string ⟨r.toArray⟩] w fun e w' => ThR r w w' e := by
 unfold ThR
 obtain ⟨R0, hR0⟩ : ∃ x, Hd (r = x) := ⟨_, ⟨rfl⟩⟩
 have lR0 : Hd (R0.length < 70000) := ⟨by rw [← hR0.out]; exact hr⟩
 rw [hR0.out]
 obtain ⟨W0, hW0⟩ : ∃ x, Hd (wd R0 = x) := ⟨_, ⟨rfl⟩⟩
 obtain ⟨R1, hR1⟩ : ∃ x, Hd (rs R0 = x) := ⟨_, ⟨rfl⟩⟩
 obtain ⟨A0, hA0⟩ : ∃ x, Hd (dig W0 = x) := ⟨_, ⟨rfl⟩⟩
 have lR1 : Hd (R1.length < 70000) := ⟨by rw [← hR1.out]; exact Nat.lt_of_le_of_lt (rs_length _) lR0.out⟩
 have lW0 : Hd (W0.length < 70000) := ⟨by rw [← hW0.out]; exact Nat.lt_of_le_of_lt (wd_length _) lR0.out⟩
 have hc0 := Hd.mk (fun u => rcut_to hW0.out hR1.out lR0.out u)
 have hd0 := Hd.mk (fun u => dig_to hA0.out lW0.out u)
 rw [hW0.out, hR1.out, hA0.out]
 obtain ⟨W1, hW1⟩ : ∃ x, Hd (wd R1 = x) := ⟨_, ⟨rfl⟩⟩
 obtain ⟨R2, hR2⟩ : ∃ x, Hd (rs R1 = x) := ⟨_, ⟨rfl⟩⟩
 obtain ⟨A1, hA1⟩ : ∃ x, Hd (dig W1 = x) := ⟨_, ⟨rfl⟩⟩
 have lR2 : Hd (R2.length < 70000) := ⟨by rw [← hR2.out]; exact Nat.lt_of_le_of_lt (rs_length _) lR1.out⟩
 have lW1 : Hd (W1.length < 70000) := ⟨by rw [← hW1.out]; exact Nat.lt_of_le_of_lt (wd_length _) lR1.out⟩
 have hc1 := Hd.mk (fun u => rcut_to hW1.out hR2.out lR1.out u)
 have hd1 := Hd.mk (fun u => dig_to hA1.out lW1.out u)
 rw [hW1.out, hR2.out, hA1.out]
 obtain ⟨W2, hW2⟩ : ∃ x, Hd (wd R2 = x) := ⟨_, ⟨rfl⟩⟩
 obtain ⟨R3, hR3⟩ : ∃ x, Hd (rs R2 = x) := ⟨_, ⟨rfl⟩⟩
 obtain ⟨A2, hA2⟩ : ∃ x, Hd (dig W2 = x) := ⟨_, ⟨rfl⟩⟩
 have lR3 : Hd (R3.length < 70000) := ⟨by rw [← hR3.out]; exact Nat.lt_of_le_of_lt (rs_length _) lR2.out⟩
 have lW2 : Hd (W2.length < 70000) := ⟨by rw [← hW2.out]; exact Nat.lt_of_le_of_lt (wd_length _) lR2.out⟩
 have hc2 := Hd.mk (fun u => rcut_to hW2.out hR3.out lR2.out u)
 have hd2 := Hd.mk (fun u => dig_to hA2.out lW2.out u)
 rw [hW2.out, hR3.out, hA2.out]
 have hst := Hd.mk (Th.start w)
 clear hr hR0
 go_enter Tryz.func100, Tryz.ntmps100
 go_wp2_with fail
 go_loopw [0, 5] (fun v0 v5 wr => (v0 = .string ⟨R0.toArray⟩ ∧ v5 = .int .i64 0 ∧ Hd (Th w.heap.size w wr [.int .i64 0, .int .i64 0, .int .i64 0])) ∨ (v0 = .string ⟨R1.toArray⟩ ∧ v5 = .int .i64 1 ∧ 0 ≤ A0 ∧ Hd (Th w.heap.size w wr [.int .i64 A0, .int .i64 0, .int .i64 0])) ∨ (v0 = .string ⟨R2.toArray⟩ ∧ v5 = .int .i64 2 ∧ 0 ≤ A0 ∧ 0 ≤ A1 ∧ Hd (Th w.heap.size w wr [.int .i64 A0, .int .i64 A1, .int .i64 0])) ∨ (v0 = .string ⟨R3.toArray⟩ ∧ v5 = .int .i64 3 ∧ 0 ≤ A0 ∧ 0 ≤ A1 ∧ 0 ≤ A2 ∧ Hd (Th w.heap.size w wr [.int .i64 A0, .int .i64 A1, .int .i64 A2]))) (fun _ v5 _ => 3 - (intOf v5).toNat)
 case atStart => exact .inl ⟨rfl, rfl, hst⟩
 case round =>
  rcases hrel with ⟨rfl, rfl, hT⟩ | ⟨rfl, rfl, p0, hT⟩ | ⟨rfl, rfl, p0, p1, hT⟩ | ⟨rfl, rfl, p0, p1, p2, hT⟩
  ·by_cases q : A0 < 0
   ·have hq : Hd (decide ((A0 : Int) < 0) = true) := ⟨decide_eq_true q⟩
    replace q := Hd.mk q
    go_wp2_with fail
    refine (hc0.out wr).mono ?_
    rintro e w1 ⟨⟨b, rfl⟩, k1⟩
    have hT1 := Hd.mk (hT.out.keep k1)
    have d1 : w1.cell? ⟨w.heap.size + 1, 0, none⟩ = some (.int .i64 0) := hT1.out.z4.cell 0
    have f1 : w1.frozen? ⟨w.heap.size + 1, 0, none⟩ = false := hT1.out.z4.free 0
    have hput : Hd (Th w.heap.size w (w1.setCell ⟨w.heap.size + 1, 0, none⟩ (.int .i64 A0)) [.int .i64 A0, .int .i64 0, .int .i64 0]) := ⟨hT1.out.put 0 (.int .i64 A0)⟩
    have hrg : Hd ((w1.setCell ⟨w.heap.size + 1, 0, none⟩ (.int .i64 A0)).rangeAt (w.heap.size + 1) 0 [.int .i64 A0, .int .i64 0, .int .i64 0]) := ⟨hput.out.z4.range 0 3⟩
    have hz2 := Hd.mk hput.out.z2
    clear k1 hT
    go_wp2_with fail
    refine (hd0.out w1).mono ?_
    rintro e w2 ⟨rfl, rfl⟩
    go_wp2_with (first | ((with_reducible refine wl_run rfl (ex_lss _ 3 3 (.tmp 26) (.const (.int .i64 0)) rfl .i64 A0 0 rfl rfl true hq.out) ?_)) | ((refine wl_load_mid rfl 126 (.tmp 4) rfl (w.heap.size + 1) 0 rfl [.int .i64 A0, .int .i64 0, .int .i64 0] hrg.out Tryz.underlying126 rfl (by kernel_rfl) ?_)) | (refine wl_store_mid rfl 126 (.tmp 2) (.tmp 28) rfl w.heap.size 0 126 Z3i [.int .i64 A0, .int .i64 0, .int .i64 0] rfl rfl hz2.out (Nat.le_refl 3) (by kernel_rfl) (by simp [Value.oneCell']) ?_; intro w3 hb hk hs; replace hb := Hd.mk hb; replace hk := Hd.mk hk))
    obtain ⟨g1, g2⟩ := hput.out.out rfl hb.out hk.out
    refine bodyPost_ret (results_2a rfl _ _ w.heap.size [.int .i64 A0, .int .i64 0, .int .i64 0] _ rfl rfl g1 rfl) rfl ?_
    exact ⟨⟨_, _, _, false, rfl, ⟨fun h => (by cases h), fun h => (by have := q.out; omega)⟩, fun h => (by cases h)⟩, g2⟩
   ·have hq : Hd (decide ((A0 : Int) < 0) = false) := ⟨decide_eq_false q⟩
    have q1 : 0 ≤ A0 := by omega
    clear q
    go_wp2_with fail
    refine (hc0.out wr).mono ?_
    rintro e w1 ⟨⟨b, rfl⟩, k1⟩
    have hT1 := Hd.mk (hT.out.keep k1)
    have d1 : w1.cell? ⟨w.heap.size + 1, 0, none⟩ = some (.int .i64 0) := hT1.out.z4.cell 0
    have f1 : w1.frozen? ⟨w.heap.size + 1, 0, none⟩ = false := hT1.out.z4.free 0
    have hput : Hd (Th w.heap.size w (w1.setCell ⟨w.heap.size + 1, 0, none⟩ (.int .i64 A0)) [.int .i64 A0, .int .i64 0, .int .i64 0]) := ⟨hT1.out.put 0 (.int .i64 A0)⟩
    have hrg : Hd ((w1.setCell ⟨w.heap.size + 1, 0, none⟩ (.int .i64 A0)).rangeAt (w.heap.size + 1) 0 [.int .i64 A0, .int .i64 0, .int .i64 0]) := ⟨hput.out.z4.range 0 3⟩
    have hz2 := Hd.mk hput.out.z2
    clear k1 hT
    go_wp2_with fail
    refine (hd0.out w1).mono ?_
    rintro e w2 ⟨rfl, rfl⟩
    go_wp2_with (first | ((with_reducible refine wl_run rfl (ex_lss _ 3 3 (.tmp 26) (.const (.int .i64 0)) rfl .i64 A0 0 rfl rfl false hq.out) ?_)))
    exact ⟨.inr (.inl ⟨rfl, rfl, q1, hput⟩), by simp [intOf]⟩
  ·by_cases q : A1 < 0
   ·have hq : Hd (decide ((A1 : Int) < 0) = true) := ⟨decide_eq_true q⟩
    replace q := Hd.mk q
    go_wp2_with fail
    refine (hc1.out wr).mono ?_
    rintro e w1 ⟨⟨b, rfl⟩, k1⟩
    have hT1 := Hd.mk (hT.out.keep k1)
    have d1 : w1.cell? ⟨w.heap.size + 1, 1, none⟩ = some (.int .i64 0) := hT1.out.z4.cell 1
    have f1 : w1.frozen? ⟨w.heap.size + 1, 1, none⟩ = false := hT1.out.z4.free 1
    have hput : Hd (Th w.heap.size w (w1.setCell ⟨w.heap.size + 1, 1, none⟩ (.int .i64 A1)) [.int .i64 A0, .int .i64 A1, .int .i64 0]) := ⟨hT1.out.put 1 (.int .i64 A1)⟩
    have hrg : Hd ((w1.setCell ⟨w.heap.size + 1, 1, none⟩ (.int .i64 A1)).rangeAt (w.heap.size + 1) 0 [.int .i64 A0, .int .i64 A1, .int .i64 0]) := ⟨hput.out.z4.range 0 3⟩
    have hz2 := Hd.mk hput.out.z2
    clear k1 hT
    go_wp2_with fail
    refine (hd1.out w1).mono ?_
    rintro e w2 ⟨rfl, rfl⟩
    go_wp2_with (first | ((with_reducible refine wl_run rfl (ex_lss _ 3 3 (.tmp 26) (.const (.int .i64 0)) rfl .i64 A1 0 rfl rfl true hq.out) ?_)) | ((refine wl_load_mid rfl 126 (.tmp 4) rfl (w.heap.size + 1) 0 rfl [.int .i64 A0, .int .i64 A1, .int .i64 0] hrg.out Tryz.underlying126 rfl (by kernel_rfl) ?_)) | (refine wl_store_mid rfl 126 (.tmp 2) (.tmp 28) rfl w.heap.size 0 126 Z3i [.int .i64 A0, .int .i64 A1, .int .i64 0] rfl rfl hz2.out (Nat.le_refl 3) (by kernel_rfl) (by simp [Value.oneCell']) ?_; intro w3 hb hk hs; replace hb := Hd.mk hb; replace hk := Hd.mk hk))
    obtain ⟨g1, g2⟩ := hput.out.out rfl hb.out hk.out
    refine bodyPost_ret (results_2a rfl _ _ w.heap.size [.int .i64 A0, .int .i64 A1, .int .i64 0] _ rfl rfl g1 rfl) rfl ?_
    exact ⟨⟨_, _, _, false, rfl, ⟨fun h => (by cases h), fun h => (by have := q.out; omega)⟩, fun h => (by cases h)⟩, g2⟩
   ·have hq : Hd (decide ((A1 : Int) < 0) = false) := ⟨decide_eq_false q⟩
    have q1 : 0 ≤ A1 := by omega
    clear q
    go_wp2_with fail
    refine (hc1.out wr).mono ?_
    rintro e w1 ⟨⟨b, rfl⟩, k1⟩
    have hT1 := Hd.mk (hT.out.keep k1)
    have d1 : w1.cell? ⟨w.heap.size + 1, 1, none⟩ = some (.int .i64 0) := hT1.out.z4.cell 1
    have f1 : w1.frozen? ⟨w.heap.size + 1, 1, none⟩ = false := hT1.out.z4.free 1
    have hput : Hd (Th w.heap.size w (w1.setCell ⟨w.heap.size + 1, 1, none⟩ (.int .i64 A1)) [.int .i64 A0, .int .i64 A1, .int .i64 0]) := ⟨hT1.out.put 1 (.int .i64 A1)⟩
    have hrg : Hd ((w1.setCell ⟨w.heap.size + 1, 1, none⟩ (.int .i64 A1)).rangeAt (w.heap.size + 1) 0 [.int .i64 A0, .int .i64 A1, .int .i64 0]) := ⟨hput.out.z4.range 0 3⟩
    have hz2 := Hd.mk hput.out.z2
    clear k1 hT
    go_wp2_with fail
    refine (hd1.out w1).mono ?_
    rintro e w2 ⟨rfl, rfl⟩
    go_wp2_with (first | ((with_reducible refine wl_run rfl (ex_lss _ 3 3 (.tmp 26) (.const (.int .i64 0)) rfl .i64 A1 0 rfl rfl false hq.out) ?_)))
    exact ⟨.inr (.inr (.inl ⟨rfl, rfl, p0, q1, hput⟩)), by simp [intOf]⟩
  ·by_cases q : A2 < 0
   ·have hq : Hd (decide ((A2 : Int) < 0) = true) := ⟨decide_eq_true q⟩
    replace q := Hd.mk q
    go_wp2_with fail
    refine (hc2.out wr).mono ?_
    rintro e w1 ⟨⟨b, rfl⟩, k1⟩
    have hT1 := Hd.mk (hT.out.keep k1)
    have d1 : w1.cell? ⟨w.heap.size + 1, 2, none⟩ = some (.int .i64 0) := hT1.out.z4.cell 2
    have f1 : w1.frozen? ⟨w.heap.size + 1, 2, none⟩ = false := hT1.out.z4.free 2
    have hput : Hd (Th w.heap.size w (w1.setCell ⟨w.heap.size + 1, 2, none⟩ (.int .i64 A2)) [.int .i64 A0, .int .i64 A1, .int .i64 A2]) := ⟨hT1.out.put 2 (.int .i64 A2)⟩
    have hrg : Hd ((w1.setCell ⟨w.heap.size + 1, 2, none⟩ (.int .i64 A2)).rangeAt (w.heap.size + 1) 0 [.int .i64 A0, .int .i64 A1, .int .i64 A2]) := ⟨hput.out.z4.range 0 3⟩
    have hz2 := Hd.mk hput.out.z2
    clear k1 hT
    go_wp2_with fail
    refine (hd2.out w1).mono ?_
    rintro e w2 ⟨rfl, rfl⟩
    go_wp2_with (first | ((with_reducible refine wl_run rfl (ex_lss _ 3 3 (.tmp 26) (.const (.int .i64 0)) rfl .i64 A2 0 rfl rfl true hq.out) ?_)) | ((refine wl_load_mid rfl 126 (.tmp 4) rfl (w.heap.size + 1) 0 rfl [.int .i64 A0, .int .i64 A1, .int .i64 A2] hrg.out Tryz.underlying126 rfl (by kernel_rfl) ?_)) | (refine wl_store_mid rfl 126 (.tmp 2) (.tmp 28) rfl w.heap.size 0 126 Z3i [.int .i64 A0, .int .i64 A1, .int .i64 A2] rfl rfl hz2.out (Nat.le_refl 3) (by kernel_rfl) (by simp [Value.oneCell']) ?_; intro w3 hb hk hs; replace hb := Hd.mk hb; replace hk := Hd.mk hk))
    obtain ⟨g1, g2⟩ := hput.out.out rfl hb.out hk.out
    refine bodyPost_ret (results_2a rfl _ _ w.heap.size [.int .i64 A0, .int .i64 A1, .int .i64 A2] _ rfl rfl g1 rfl) rfl ?_
    exact ⟨⟨_, _, _, false, rfl, ⟨fun h => (by cases h), fun h => (by have := q.out; omega)⟩, fun h => (by cases h)⟩, g2⟩
   ·have hq : Hd (decide ((A2 : Int) < 0) = false) := ⟨decide_eq_false q⟩
    have q1 : 0 ≤ A2 := by omega
    clear q
    go_wp2_with fail
    refine (hc2.out wr).mono ?_
    rintro e w1 ⟨⟨b, rfl⟩, k1⟩
    have hT1 := Hd.mk (hT.out.keep k1)
    have d1 : w1.cell? ⟨w.heap.size + 1, 2, none⟩ = some (.int .i64 0) := hT1.out.z4.cell 2
    have f1 : w1.frozen? ⟨w.heap.size + 1, 2, none⟩ = false := hT1.out.z4.free 2
    have hput : Hd (Th w.heap.size w (w1.setCell ⟨w.heap.size + 1, 2, none⟩ (.int .i64 A2)) [.int .i64 A0, .int .i64 A1, .int .i64 A2]) := ⟨hT1.out.put 2 (.int .i64 A2)⟩
    have hrg : Hd ((w1.setCell ⟨w.heap.size + 1, 2, none⟩ (.int .i64 A2)).rangeAt (w.heap.size + 1) 0 [.int .i64 A0, .int .i64 A1, .int .i64 A2]) := ⟨hput.out.z4.range 0 3⟩
    have hz2 := Hd.mk hput.out.z2
    clear k1 hT
    go_wp2_with fail
    refine (hd2.out w1).mono ?_
    rintro e w2 ⟨rfl, rfl⟩
    go_wp2_with (first | ((with_reducible refine wl_run rfl (ex_lss _ 3 3 (.tmp 26) (.const (.int .i64 0)) rfl .i64 A2 0 rfl rfl false hq.out) ?_)))
    exact ⟨.inr (.inr (.inr ⟨rfl, rfl, p0, p1, q1, hput⟩)), by simp [intOf]⟩
  ·obtain ⟨b3, hb3⟩ : ∃ b, Hd ((R3 == ([] : List UInt8)) = b) := ⟨_, ⟨rfl⟩⟩
   have hrg : Hd (wr.rangeAt (w.heap.size + 1) 0 [.int .i64 A0, .int .i64 A1, .int .i64 A2]) := ⟨hT.out.z4.range 0 3⟩
   have hz2 := Hd.mk hT.out.z2
   go_wp2_with (first | ((refine wl_load_mid rfl 126 (.tmp 4) rfl (w.heap.size + 1) 0 rfl [.int .i64 A0, .int .i64 A1, .int .i64 A2] hrg.out Tryz.underlying126 rfl (by kernel_rfl) ?_)) | (refine wl_store_mid rfl 126 (.tmp 2) (.tmp 30) rfl w.heap.size 0 126 Z3i [.int .i64 A0, .int .i64 A1, .int .i64 A2] rfl rfl hz2.out (Nat.le_refl 3) (by kernel_rfl) (by simp [Value.oneCell']) ?_; intro w3 hb hk hs; replace hb := Hd.mk hb; replace hk := Hd.mk hk) | ((with_reducible refine wl_run rfl (ex_seql _ 9 9 (.tmp 31) (.const (.string ⟨#[]⟩)) rfl R3 [] b3 hb3.out rfl rfl) ?_)))
   obtain ⟨g1, g2⟩ := hT.out.out rfl hb.out hk.out
   refine bodyPost_ret (results_2a rfl _ _ w.heap.size [.int .i64 A0, .int .i64 A1, .int .i64 A2] _ rfl rfl g1 rfl) rfl ?_
   refine ⟨⟨_, _, _, b3, rfl, ?_, fun _ => ⟨rfl, rfl, rfl⟩⟩, g2⟩
   rw [← hb3.out, beq_iff_eq]
   exact ⟨fun h => ⟨p0, p1, p2, h⟩, fun h => h.2.2.2⟩
end Go.Proofs.YtkcechpaeilaeaaGreatDoor
namespace Go.Proofs.YtkcechpaeilaeaaGreatDoor
open Go.RowKit
structure Few (s : Sc) : Prop where
 f : s.fl.length ≤ 1000
 w : s.ss.length ≤ 1000
 a : s.ac.length ≤ 1000
theorem scOk.fewR {s : Sc} (h : scOk s) : Few s := ⟨by have := h.bnd.nf; omega, by have := h.bnd.ns; omega, by have := h.bnd.na; omega⟩
theorem takes_at {b R : Nat} {w : World} (hE : Ev w) {s : Sc} {VF VS VA : Value} {cs : List Value} {k : Nat} (h : Rd b R w s (stg k s) VF VS VA cs) (hlow : k < 3 → s.fl = [] ∧ s.ss = [] ∧ s.ac = []) (hf : Few s) (hb : b ≤ w.heap.size) (l : List UInt8) (hl : l.length < 70000) :
  Calls Tryz.prog 75 #[.pointer (some ⟨R, 0, none⟩), .string ⟨l.toArray⟩] w fun e w' => TkR b R w w' k s l e := by
 by_cases h3 : 3 ≤ k
 rotate_left
 ·obtain ⟨_, g1, g2⟩ := hlow (by omega)
  have e : stg k s = (k : Int) := by unfold stg; rw [if_pos (by omega)]
  rw [e] at h
  have : k = 0 ∨ k = 1 ∨ k = 2 := by omega
  rcases this with rfl | rfl | rfl
  ·exact takes_head0 hE h ⟨g1, g2⟩ hb l hl
  ·exact takes_head1 hE h ⟨g1, g2⟩ hb l hl
  ·exact takes_head2 hE h ⟨g1, g2⟩ hb l hl
 have nk : ¬ k < 3 := by omega
 by_cases hF : wd l = [102, 111, 108, 100] ∧ s.ss = [] ∧ s.ac = []
 ·have e : stg k s = 3 := by simp [stg, nk, hF.2.1, hF.2.2]
  rw [e] at h
  exact takes_fold hE h3 h hF.2 hf.f hb l hl hF.1
 by_cases hS : wd l = [115, 116, 111, 112] ∧ s.ac = []
 ·have e : 3 ≤ stg k s ∧ stg k s ≤ 4 := by
   unfold stg
   rw [if_neg nk, if_neg (by simp [hS.2])]
   split <;> omega
  exact takes_stop hE h3 e.1 e.2 h hS.2 hf.w hb l hl hS.1
 have e3 : 3 ≤ stg k s := by
  unfold stg
  rw [if_neg nk]
  split
  ·omega
  ·split <;> omega
 refine takes_act hE h3 e3 h hf.a hb l hl hF hS _ _ _ _ rfl rfl rfl rfl ?_
 by_cases g1 : wd l = [102, 111, 108, 100]
 ·refine .inr (.inl ⟨by simp [g1], ?_, by rw [g1]; decide⟩)
  apply decide_eq_false
  intro e
  apply hF
  refine ⟨g1, ?_⟩
  unfold stg at e
  rw [if_neg nk] at e
  split at e
  ·omega
  ·rename_i ha
   split at e
   ·omega
   ·rename_i hs
    exact ⟨Classical.not_not.1 hs, Classical.not_not.1 ha⟩
 ·by_cases g2 : wd l = [115, 116, 111, 112]
  ·refine .inr (.inr ⟨by simpa using g1, by simp [g2], ?_⟩)
   apply decide_eq_false
   intro e
   apply hS
   refine ⟨g2, ?_⟩
   unfold stg at e
   rw [if_neg nk] at e
   split at e
   ·omega
   ·rename_i ha
    exact Classical.not_not.1 ha
  ·exact .inl ⟨by simpa using g1, by simpa using g2⟩
end Go.Proofs.YtkcechpaeilaeaaGreatDoor
namespace Go.Proofs.YtkcechpaeilaeaaGreatDoor
open Go.RowKit
set_option maxRecDepth 100000
section
variable {F : Fence} {m : Nat} {P : Program} {ops : Array Oper} {rest : List Oper} {o : Oper} {a : Act} {Q : Exit → Act → World → Prop}
theorem oi_run {w w' : World} {v : Value} {K : Act → World → Prop} (hF : ∀ f, F.fn f) (hd : ∀ c, o.op ≠ .defer c) (hr : (execOp a.eval o).run P w = .ok (.value v) w') (h : K (a.put o.dst v) w') : o.wpIn F m P a w K Q := by
 unfold Oper.wpIn
 refine ⟨fun f _ => hF f, ?_⟩
 rw [Oper.semAt_plain F _ _ hd, hr]
 exact h
theorem li_run {w w' : World} {v : Value} (hF : ∀ f, F.fn f) (hd : ∀ c, o.op ≠ .defer c) (hg : o.guard = none) (hr : (execOp a.eval o).run P w = .ok (.value v) w') (h : wpListIn F m P ops Q rest (a.put o.dst v) w') : wpListIn F m P ops Q (o :: rest) a w :=
 wpListIn_plain hg fun _ hK => oi_run hF hd hr (hK _ _ h)
theorem li_runG {w w' : World} {v : Value} (hF : ∀ f, F.fn f) (hd : ∀ c, o.op ≠ .defer c) (hw : Region.wanted o (yielded ops a.tmps) = true) (hr : (execOp a.eval o).run P w = .ok (.value v) w') (h : wpListIn F m P ops Q rest (a.put o.dst v) w') : wpListIn F m P ops Q (o :: rest) a w :=
 wpListIn_step fun K hK => by rw [if_pos hw]; exact oi_run hF hd hr (hK _ _ h)
end
theorem wideFn (f : FuncId) : Fence.wide.fn f := trivial
theorem index_byte (d : UInt8) (x y : List UInt8) (h : d ∉ x) : Lib.index (x ++ d :: y) [d] = (x.length : Int) := by
 rw [Lib.index_one]
 induction x with
 | nil => simp [Lib.indexByte]
 | cons c r ih =>
  have hc : c ≠ d := fun e => h (by simp [e])
  have := ih (fun e => h (by simp [e]))
  rw [List.cons_append, Lib.indexByte, if_neg (by simpa using hc), this]
  simp
theorem index_no_byte (d : UInt8) (x : List UInt8) (h : d ∉ x) : Lib.index x [d] = -1 := by
 rw [Lib.index_one]
 induction x with
 | nil => simp [Lib.indexByte]
 | cons c r ih =>
  have hc : c ≠ d := fun e => h (by simp [e])
  have := ih (fun e => h (by simp [e]))
  rw [Lib.indexByte, if_neg (by simpa using hc), this]
  simp
theorem byte_split (d : UInt8) (l : List UInt8) : (d ∉ l ∧ l.takeWhile (· != d) = l ∧ (l.dropWhile (· != d)).tail = []) ∨ (d ∉ l.takeWhile (· != d) ∧ l = l.takeWhile (· != d) ++ d :: (l.dropWhile (· != d)).tail) := by
 induction l with
 | nil => exact .inl ⟨by simp, rfl, rfl⟩
 | cons c r ih =>
  by_cases hc : c = d
  ·subst hc
   exact .inr ⟨by simp, by simp⟩
  ·have e1 : (c :: r).takeWhile (· != d) = c :: r.takeWhile (· != d) := by
    rw [List.takeWhile_cons, if_pos (by simpa using hc)]
   have e2 : ((c :: r).dropWhile (· != d)).tail = (r.dropWhile (· != d)).tail := by
    rw [List.dropWhile_cons, if_pos (by simpa using hc)]
   rcases ih with ⟨h1, h2, h3⟩ | ⟨h1, h2⟩
   ·exact .inl ⟨by simp [h1, Ne.symm hc], by rw [e1, h2], by rw [e2, h3]⟩
   ·refine .inr ⟨by rw [e1]; simp [h1, Ne.symm hc], ?_⟩
    rw [e1, e2, List.cons_append, ← h2]
theorem cut_byte (d : UInt8) (l : List UInt8) : (Lib.cut l [d]).1 = l.takeWhile (· != d) ∧ (Lib.cut l [d]).2.1 = (l.dropWhile (· != d)).tail := by
 rcases byte_split d l with ⟨h1, h2, h3⟩ | ⟨h1, h2⟩
 ·have := index_no_byte d l h1
  unfold Lib.cut
  rw [this, if_neg (by omega), h2, h3]
  exact ⟨rfl, rfl⟩
 ·have := index_byte d (l.takeWhile (· != d)) (l.dropWhile (· != d)).tail h1
  rw [← h2] at this
  unfold Lib.cut
  rw [this, if_pos (by omega)]
  show l.take _ = _ ∧ l.drop _ = _
  generalize l.takeWhile (· != d) = x at *
  generalize (l.dropWhile (· != d)).tail = y at *
  subst h2
  simp only [Int.toNat_natCast, List.take_left, List.length_cons, List.length_nil, true_and]
  rw [List.drop_append]
  simp
def ln1 (r : List UInt8) : List UInt8 := r.takeWhile (· != 10)
def lnr (r : List UInt8) : List UInt8 := (r.dropWhile (· != 10)).tail
theorem lnr_lt {r : List UInt8} (h : r ≠ []) : (lnr r).length < r.length := by
 unfold lnr
 rw [List.length_tail]
 have h1 : (r.dropWhile (· != 10)).length ≤ r.length := (List.dropWhile_sublist _).length_le
 have : 0 < r.length := List.length_pos_iff.2 h
 omega
theorem cutl_at {l : List UInt8} (hl : l.length < 4294967281) {w : World} (hE : ∃ m, w.cell? ⟨0, 0, none⟩ = some (.int .i64 m)) : Calls Tryz.prog 64 #[.string ⟨l.toArray⟩, .string ⟨#[10]⟩] w fun e w' => (∃ b, e = .returned (.tuple #[.string ⟨(ln1 l).toArray⟩, .string ⟨(lnr l).toArray⟩, .bool b])) ∧ ∃ n, w' = w.drewN n := by
 obtain ⟨m, hm⟩ := hE
 refine (Tryz.strings_Cut ⟨l.toArray⟩ ⟨#[10]⟩ m w (by rw [sz]; exact hl) hm).mono ?_
 rintro e w' ⟨rfl, n, rfl⟩
 obtain ⟨h1, h2⟩ := cut_byte 10 l
 refine ⟨⟨(Lib.cut l [10]).2.2, ?_⟩, n, rfl⟩
 unfold ln1 lnr
 rw [← h1, ← h2]
theorem lines_at (s : List UInt8) (w : World) : Calls Tryz.prog 22 #[.string ⟨s.toArray⟩] w fun e w' => e = .returned (.func (.func 63) #[] #[.pointer (some ⟨w.heap.size, 0, none⟩)]) ∧ w' = w.alloc (.cells #[.string ⟨s.toArray⟩] 9) := by
 go_enter Tryz.func22, Tryz.ntmps22
 go_wp2_with fail
 go_ret
 exact ⟨rfl, rfl⟩
def lenS : Option Value → Nat
 | some (.string s) => s.size
 | _ => 0
structure Li (Bn : Nat) (s : List UInt8) (J : List (Nat × List UInt8) → World → Prop) (wr : World) (k : Nat) (r : List UInt8) : Prop where
 ex : ∃ done, done.length = k ∧ done ++ lnGo [] r = lnGo [] s ∧ J (saidFrom 1 done) wr
 cell : wr.heap[Bn]? = some (.cells #[.string ⟨r.toArray⟩] 9 (0, 0))
 len : r.length ≤ s.length
 cnt : k + r.length ≤ s.length + 1
theorem Li.fin {Bn : Nat} {s : List UInt8} {J : List (Nat × List UInt8) → World → Prop} {wr : World} {k : Nat} (h : Li Bn s J wr k []) : J (saidS s) wr := by
 obtain ⟨done, _, h2, h3⟩ := h.ex
 simp only [lnGo, if_true, List.append_nil] at h2
 unfold saidS
 rw [← h2]; exact h3
theorem lnGo_step {r : List UInt8} (h : r ≠ []) : lnGo [] r = ln1 r :: lnGo [] (lnr r) := by
 have := lnGo_cut r [] (by simpa using h)
 simpa [ln1, lnr] using this
theorem Li.skip {Bn : Nat} {s : List UInt8} {J : List (Nat × List UInt8) → World → Prop} {wr w' : World} {k : Nat} {r : List UInt8} (h : Li Bn s J wr k r) (hr : r ≠ []) (hk : keepL (ln1 r) = false) (hJ : ∀ pre, J pre wr → J pre w') (hc : w'.heap[Bn]? = some (.cells #[.string ⟨(lnr r).toArray⟩] 9 (0, 0))) : Li Bn s J w' (k + 1) (lnr r) := by
 obtain ⟨done, h1, h2, h3⟩ := h.ex
 have hl := lnr_lt hr
 refine ⟨⟨done ++ [ln1 r], by simp [h1], ?_, ?_⟩, hc, by have := h.len; omega, by have := h.cnt; omega⟩
 ·rw [← h2, lnGo_step hr]; simp
 ·rw [saidFrom_app]
  simp only [saidFrom, hk, Bool.false_eq_true, if_false, List.append_nil]
  exact hJ _ h3
theorem Li.go {Bn : Nat} {s : List UInt8} {J Jx : List (Nat × List UInt8) → World → Prop} {wr : World} {k : Nat} {r : List UInt8} (h : Li Bn s J wr k r) (hr : r ≠ []) (hk : keepL (ln1 r) = true) :
  ∃ pre, J pre wr ∧ pre ++ [(k + 1, ln1 r)] <+: saidS s ∧ pre ≠ saidS s ∧ (∀ w', J (pre ++ [(k + 1, ln1 r)]) w' → w'.heap[Bn]? = some (.cells #[.string ⟨(lnr r).toArray⟩] 9 (0, 0)) → Li Bn s J w' (k + 1) (lnr r)) := by
 obtain ⟨done, h1, h2, h3⟩ := h.ex
 have hl := lnr_lt hr
 have e : saidS s = saidFrom 1 done ++ ((k + 1, ln1 r) :: saidFrom (1 + (done ++ [ln1 r]).length) (lnGo [] (lnr r))) := by
  unfold saidS
  rw [← h2, lnGo_step hr, show done ++ ln1 r :: lnGo [] (lnr r) = (done ++ [ln1 r]) ++ lnGo [] (lnr r) by simp, saidFrom_app, saidFrom_app]
  simp only [saidFrom, hk, if_true, h1, Nat.add_comm 1 k, List.append_assoc, List.cons_append, List.nil_append]
 refine ⟨saidFrom 1 done, h3, ⟨saidFrom (1 + (done ++ [ln1 r]).length) (lnGo [] (lnr r)), by rw [e]; simp⟩, fun e2 => ?_, fun w' hJ hc => ⟨⟨done ++ [ln1 r], by simp [h1], ?_, ?_⟩, hc, by have := h.len; omega, by have := h.cnt; omega⟩⟩
 ·rw [e] at e2
  have := congrArg List.length e2
  simp at this
 ·rw [← h2, lnGo_step hr]; simp
 ·rw [saidFrom_app]
  simp only [saidFrom, hk, if_true, h1, Nat.add_comm 1 k]
  exact hJ
theorem lenS_cell {wr : World} {Bn : Nat} {r : List UInt8} (h : wr.heap[Bn]? = some (.cells #[.string ⟨r.toArray⟩] 9 (0, 0))) : lenS (wr.cell? ⟨Bn, 0, none⟩) = r.length := by
 rw [Lib.cell_of_heap h]; exact sz r
theorem heap_setCell1 {w : World} {b : Nat} {u : Value} {t : TypeId} (v : Value) (h : w.heap[b]? = some (.cells #[u] t (0, 0))) : (w.setCell ⟨b, 0, none⟩ v).heap[b]? = some (.cells #[v] t (0, 0)) := by
 obtain ⟨hlt, hk⟩ := Array.getElem?_eq_some_iff.1 h
 show (w.heap.modify b _)[b]? = _
 rw [Array.getElem?_eq_getElem (by rw [Array.size_modify]; exact hlt), Array.getElem_modify_self, hk]
 simp
set_option maxHeartbeats 1000000 in
theorem iter_at (l Bn : Nat) (s : List UInt8) (hs : s.length ≤ 100000) (J Jx : List (Nat × List UInt8) → World → Prop)
  (hJd : ∀ pre W n, J pre W → J pre (W.drewN n)) (hJc : ∀ pre W v, J pre W → (∃ u, W.heap[Bn]? = some (.cells #[.string u] 9 (0, 0))) → J pre (W.setCell ⟨Bn, 0, none⟩ (.string v))) (hJm : ∀ pre W, J pre W → ∃ m, W.cell? ⟨0, 0, none⟩ = some (.int .i64 m))
  (hY : ∀ pre x W, pre ++ [x] <+: saidS s → J pre W → YieldAt Fence.wide 0 Tryz.prog l #[.int .i64 (x.1 : Int), .string ⟨x.2.toArray⟩] W fun e W' =>
   ((e = .returned (.bool true) ∧ J (pre ++ [x]) W') ∨ (e = .returned (.bool false) ∧ Jx pre W')) ∧ W'.heap[Bn]? = W.heap[Bn]?)
  (W : World) (hB : W.heap[Bn]? = some (.cells #[.string ⟨s.toArray⟩] 9 (0, 0))) (h0 : J [] W) :
  CallsIn Fence.wide 1 Tryz.prog 63 #[.func (.yield l) #[] #[], .pointer (some ⟨Bn, 0, none⟩)] W fun e W' => e = .returned (.tuple #[]) ∧ ((∃ pre, pre = saidS s ∧ J pre W') ∨ (∃ pre, pre <+: saidS s ∧ pre ≠ saidS s ∧ Jx pre W')) := by
 refine callsIn_of_wp Tryz.func63 rfl trivial ?_ rfl
 simp only [Tryz.ntmps63, List.size_toArray, List.length_cons, List.length_nil, Nat.reduceAdd, Nat.reduceSub, Array.replicate_succ, Array.replicate_zero, List.push_toArray, List.append_toArray, List.nil_append, List.cons_append]
 rw [wpIn_wide]
 refine wp_scope_straight ?_
 rw [← wpIn_wide (n := 1)]
 gi_wp2
 refine wpIn_label ?_
 have hf64 : Fence.wide.fn 64 := trivial
 have hs := Hd.mk hs
 have hY := Hd.mk hY
 have hJd := Hd.mk hJd
 have hJc := Hd.mk hJc
 have hJm := Hd.mk hJm
 have hL0 : Hd (Li Bn s J W 0 s) := ⟨⟨⟨[], rfl, rfl, h0⟩, hB, Nat.le_refl _, by omega⟩⟩
 clear hB h0
 gi_wp2
 gi_loopw [3] (fun v3 wr => ∃ (k : Nat) (r : List UInt8), v3 = .int .i64 k ∧ Hd (Li Bn s J wr k r)) (fun _ wr => lenS (wr.cell? ⟨Bn, 0, none⟩))
 case atStart => exact ⟨0, s, rfl, hL0⟩
 case round =>
  clear hL0
  obtain ⟨k, r, rfl, hL⟩ := hrel
  have d0 : wr.cell? ⟨Bn, 0, none⟩ = some (.string ⟨r.toArray⟩) := by rw [Lib.cell_of_heap hL.out.cell]; rfl
  have f0 : wr.frozen? ⟨Bn, 0, none⟩ = false := Lib.frozen_of_heap hL.out.cell 0
  by_cases hr : r = []
  ·subst hr
   have hb : Hd (((([] : List UInt8)) != []) = false) := ⟨rfl⟩
   gi_wp2_with (with_reducible refine li_run wideFn (fun _ h => by cases h) rfl (ex_sneq _ 9 9 (.tmp 5) (.const (.string ⟨#[]⟩)) rfl [] [] false hb.out rfl rfl) ?_)
   simp only [Exit.noGoto]
   go_end0
   exact ⟨rfl, .inl ⟨_, rfl, hL.out.fin⟩⟩
  ·have hb : Hd ((r != []) = true) := ⟨by simpa using hr⟩
   have hr := Hd.mk hr
   obtain ⟨x, hx⟩ : ∃ x, Hd (ln1 r = x) := ⟨_, ⟨rfl⟩⟩
   obtain ⟨y, hy⟩ : ∃ y, Hd (lnr r = y) := ⟨_, ⟨rfl⟩⟩
   have hkb : (k : Int) ≤ 100001 := by have := hL.out.cnt; have := hs.out; omega
   have hc : Hd (Calls Tryz.prog 64 #[.string ⟨r.toArray⟩, .string ⟨#[10]⟩] wr fun e w' => (∃ b, e = .returned (.tuple #[.string ⟨x.toArray⟩, .string ⟨y.toArray⟩, .bool b])) ∧ ∃ n, w' = wr.drewN n) := ⟨by
    rw [← hx.out, ← hy.out]
    obtain ⟨done, _, _, hJ⟩ := hL.out.ex
    exact cutl_at (by have := hL.out.len; have := hs.out; omega) (hJm.out _ _ hJ)⟩
   have hms : Hd (y.length < r.length) := ⟨by rw [← hy.out]; exact lnr_lt hr.out⟩
   have hcell : Hd (∀ n, ((wr.drewN n).setCell ⟨Bn, 0, none⟩ (.string ⟨y.toArray⟩)).heap[Bn]? = some (.cells #[.string ⟨y.toArray⟩] 9 (0, 0))) := ⟨fun n => heap_setCell1 _ (w := wr.drewN n) hL.out.cell⟩
   have hJJ : Hd (∀ n pre, J pre wr → J pre ((wr.drewN n).setCell ⟨Bn, 0, none⟩ (.string ⟨y.toArray⟩))) := ⟨fun n pre h => hJc.out _ _ _ (hJd.out _ _ n h) ⟨_, hL.out.cell⟩⟩
   have hmz : Hd (lenS (wr.cell? ⟨Bn, 0, none⟩) = r.length) := ⟨lenS_cell hL.out.cell⟩
   rcases x with _ | ⟨c, x⟩
   ·have hx1 : Hd (((([] : List UInt8)) == []) = true) := ⟨rfl⟩
    have hk : Hd (keepL (ln1 r) = false) := ⟨by rw [hx.out]; rfl⟩
    gi_wp2_with (first | ((with_reducible refine li_run wideFn (fun _ h => by cases h) rfl (ex_sneq _ 9 9 (.tmp 5) (.const (.string ⟨#[]⟩)) rfl r [] true hb.out rfl rfl) ?_); simp only [Act.put, uA, uB, uC]) | (gi_at_call 64; refine (callsIn_wide.2 hc.out).mono ?_; rintro e w1 ⟨⟨b, rfl⟩, nn, rfl⟩; have d1 : (wr.drewN nn).cell? ⟨Bn, 0, none⟩ = some (.string ⟨r.toArray⟩) := d0; have f1 : (wr.drewN nn).frozen? ⟨Bn, 0, none⟩ = false := f0; dsimp only) | ((with_reducible refine li_run wideFn (fun _ h => by cases h) rfl (ex_seql _ 9 9 (.tmp 15) (.const (.string ⟨#[]⟩)) rfl ([]) [] true hx1.out rfl rfl) ?_); simp only [Act.put, uA, uB, uC]))
    have hn := hL.out.skip hr.out hk.out (hJJ.out nn) (by rw [hy.out]; exact hcell.out nn)
    rw [hy.out] at hn
    exact ⟨⟨k + 1, y, by go_num, ⟨hn⟩⟩, by rw [lenS_cell hn.cell, hmz.out]; exact hms.out⟩
   ·have hx1 : Hd (((c :: x) == []) = false) := ⟨rfl⟩
    have hc0 : Hd ((c :: x)[0]? = some c) := ⟨rfl⟩
    by_cases h35 : c = 35
    ·subst h35
     have hx35 : Hd (decide (((35 : UInt8).toNat : Int) = 35) = true) := ⟨by decide⟩
     have hk : Hd (keepL (ln1 r) = false) := ⟨by rw [hx.out]; simp [keepL]⟩
     gi_wp2_with (first | ((with_reducible refine li_run wideFn (fun _ h => by cases h) rfl (ex_sneq _ 9 9 (.tmp 5) (.const (.string ⟨#[]⟩)) rfl r [] true hb.out rfl rfl) ?_); simp only [Act.put, uA, uB, uC]) | (gi_at_call 64; refine (callsIn_wide.2 hc.out).mono ?_; rintro e w1 ⟨⟨b, rfl⟩, nn, rfl⟩; have d1 : (wr.drewN nn).cell? ⟨Bn, 0, none⟩ = some (.string ⟨r.toArray⟩) := d0; have f1 : (wr.drewN nn).frozen? ⟨Bn, 0, none⟩ = false := f0; dsimp only) | ((with_reducible refine li_run wideFn (fun _ h => by cases h) rfl (ex_seql _ 9 9 (.tmp 15) (.const (.string ⟨#[]⟩)) rfl (35 :: x) [] false hx1.out rfl rfl) ?_); simp only [Act.put, uA, uB, uC]) | ((with_reducible refine li_runG ?hF ?hd ?hw (ex_sidx _ 9 (.tmp 18) (.const (.int .i64 0)) rfl U9 .i64 (35 :: x) 0 35 hc0.out 0 rfl rfl rfl) ?_); (case hF => exact wideFn); (case hd => exact (fun _ h => by cases h)); (case hw => rfl); simp only [Act.put, uA, uB, uC]) | ((with_reducible refine li_runG ?hF ?hd ?hw (ex_eql _ 5 5 (.tmp 19) (.const (.int .u8 35)) rfl .u8 ((35 : UInt8).toNat : Int) 35 rfl rfl true hx35.out) ?_); (case hF => exact wideFn); (case hd => exact (fun _ h => by cases h)); (case hw => rfl); simp only [Act.put, uA, uB, uC]))
     have hn := hL.out.skip hr.out hk.out (hJJ.out nn) (by rw [hy.out]; exact hcell.out nn)
     rw [hy.out] at hn
     exact ⟨⟨k + 1, y, by go_num, ⟨hn⟩⟩, by rw [lenS_cell hn.cell, hmz.out]; exact hms.out⟩
    ·have hx35 : Hd (decide ((c.toNat : Int) = 35) = false) := ⟨decide_eq_false (fun h => h35 (by
      have h2 : c.toNat = (35 : UInt8).toNat := by
       have : (35 : UInt8).toNat = 35 := rfl
       omega
      exact UInt8.toNat_inj.1 h2))⟩
     have hk : Hd (keepL (ln1 r) = true) := ⟨by rw [hx.out]; simp [keepL, h35]⟩
     obtain ⟨pre, hJ, hpre, hne, hnext⟩ := hL.out.go (Jx := Jx) hr.out hk.out
     rw [hx.out, hy.out] at hnext
     rw [hx.out] at hpre
     have hJ := Hd.mk hJ
     have hnext := Hd.mk hnext
     have hpre := Hd.mk hpre
     have hne := Hd.mk hne
     have hYY : Hd (∀ n, ∃ fn tmps assign body, (Instr.yield l #[.int .i64 ((k : Int) + 1), .string ⟨(c :: x).toArray⟩]).run Tryz.prog ((wr.drewN n).setCell ⟨Bn, 0, none⟩ (.string ⟨y.toArray⟩)) = .ok (.round l fn tmps assign body) ((wr.drewN n).setCell ⟨Bn, 0, none⟩ (.string ⟨y.toArray⟩)) ∧
       Hd (RoundIn Fence.wide 0 Tryz.prog l fn tmps assign body ((wr.drewN n).setCell ⟨Bn, 0, none⟩ (.string ⟨y.toArray⟩)) fun e W' => ((e = .returned (.bool true) ∧ J (pre ++ [(k + 1, c :: x)]) W') ∨ (e = .returned (.bool false) ∧ Jx pre W')) ∧ W'.heap[Bn]? = ((wr.drewN n).setCell ⟨Bn, 0, none⟩ (.string ⟨y.toArray⟩)).heap[Bn]?)) := ⟨fun n => by
      obtain ⟨fn, tmps, assign, body, h1, h2⟩ := hY.out pre (k + 1, c :: x) _ hpre.out (hJJ.out n _ hJ.out)
      exact ⟨fn, tmps, assign, body, h1, ⟨h2⟩⟩⟩
     gi_wp2_with (first | ((with_reducible refine li_run wideFn (fun _ h => by cases h) rfl (ex_sneq _ 9 9 (.tmp 5) (.const (.string ⟨#[]⟩)) rfl r [] true hb.out rfl rfl) ?_); simp only [Act.put, uA, uB, uC]) | (gi_at_call 64; refine (callsIn_wide.2 hc.out).mono ?_; rintro e w1 ⟨⟨b, rfl⟩, nn, rfl⟩; have d1 : (wr.drewN nn).cell? ⟨Bn, 0, none⟩ = some (.string ⟨r.toArray⟩) := d0; have f1 : (wr.drewN nn).frozen? ⟨Bn, 0, none⟩ = false := f0; obtain ⟨fn, tmps, assign, body, hyy, hR⟩ := hYY.out nn; dsimp only) | ((with_reducible refine li_run wideFn (fun _ h => by cases h) rfl (ex_seql _ 9 9 (.tmp 15) (.const (.string ⟨#[]⟩)) rfl (c :: x) [] false hx1.out rfl rfl) ?_); simp only [Act.put, uA, uB, uC]) | ((with_reducible refine li_runG ?hF ?hd ?hw (ex_sidx _ 9 (.tmp 18) (.const (.int .i64 0)) rfl U9 .i64 (c :: x) 0 c hc0.out 0 rfl rfl rfl) ?_); (case hF => exact wideFn); (case hd => exact (fun _ h => by cases h)); (case hw => rfl); simp only [Act.put, uA, uB, uC]) | ((with_reducible refine li_runG ?hF ?hd ?hw (ex_eql _ 5 5 (.tmp 19) (.const (.int .u8 35)) rfl .u8 (c.toNat : Int) 35 rfl rfl false hx35.out) ?_); (case hF => exact wideFn); (case hd => exact (fun _ h => by cases h)); (case hw => rfl); simp only [Act.put, uA, uB, uC]))
     refine hR.out.mono ?_
     rintro e W3 ⟨(⟨rfl, hJ3⟩ | ⟨rfl, hx3⟩), hc3⟩
     ·have hn := hnext.out W3 hJ3 (by rw [hc3]; exact hcell.out nn)
      have hn := Hd.mk hn
      clear hyy hR hJ3 hc3
      gi_wp2
      exact ⟨⟨k + 1, y, rfl, hn⟩, by rw [lenS_cell hn.out.cell, hmz.out]; exact hms.out⟩
     ·have hx3 := Hd.mk hx3
      clear hyy hR hc3
      gi_wp2
      simp only [Exit.noGoto]
      go_end0
      exact ⟨rfl, .inr ⟨pre, (List.prefix_append pre _).trans hpre.out, hne.out, hx3.out⟩⟩
end Go.Proofs.YtkcechpaeilaeaaGreatDoor
