/- Is an act written, and read? -/
import Derived.Test.YtkcechpaeilaeaaGreatDoorV4
import Derived.Test.YtkcechpaeilaeaaGreatDoorA11
import Derived.Test.YtkcechpaeilaeaaGreatDoorS13
import Derived.Lib.SlBytesConst
namespace Go.Proofs.YtkcechpaeilaeaaGreatDoor
open Go.RowKit
set_option linter.unusedVariables false
set_option linter.unusedSimpArgs false
set_option maxRecDepth 100000

def a0 : A := ⟨4, [97], [116, 104, 101, 10, 99, 97, 116], 0, []⟩
def ln0 : List UInt8 := [97, 100, 100, 32, 97, 32, 116, 104, 101, 92, 48, 97, 99, 97, 116]
theorem line_a0 : line a0 = ln0 := by decide
theorem may_a0 : may a0 := by decide
theorem says_a0 : Says ln0 a0 true := ⟨fun _ => ⟨may_a0, line_a0⟩, fun h => by cases h⟩
theorem text_a0 : hd943 ++ line a0 ++ [10] = [112, 97, 103, 101, 115, 32, 57, 10, 99, 97, 99, 104, 101, 32, 51, 10, 99, 97, 112, 32, 52, 10, 97, 100, 100, 32, 97, 32, 116, 104, 101, 92, 48, 97, 99, 97, 116, 10] := by rw [line_a0]; rfl
theorem bs_new (w : World) : Bs (w.alloc (.cells #[.int .u8 116, .int .u8 104, .int .u8 101, .int .u8 10, .int .u8 99, .int .u8 97, .int .u8 116] 5 (7, 8))) (.slice (some ⟨w.heap.size, 0, none⟩) 7 7) (ints [116, 104, 101, 10, 99, 97, 116]) := by
  refine ⟨_, _, rfl, by decide, .inr ⟨w.heap.size, 0, rfl, fun j v hv => ?_⟩⟩
  rw [Lib.cell_of_heap (_root_.Go.heap_alloc_new w _)]
  simpa [u8s, ints] using hv
theorem bs_nil (w : World) : Bs w (.slice none 0 0) (ints []) := ⟨none, 0, rfl, Nat.le_refl _, .inl rfl⟩
theorem bs_kp {w w' : World} {v : Value} {l : List Int} (h : Bs w v l) (hk : Kp (fun _ => False) w w') : Bs w' v l := Bs.keep h (fun b hb _ => hk.block b hb id)
abbrev ag0 (At : Option Addr) (ct : Nat) (Ap : Option Addr) (cp : Nat) : Value := .agg #[.int .i64 4, .string ⟨#[97]⟩, .slice At 7 ct, .int .i64 0, .slice Ap 0 cp]
theorem line0_at {w : World} (hE : Ev w) (At : Option Addr) (ct : Nat) (Ap : Option Addr) (cp : Nat) (hT : Bs w (.slice At 7 ct) (ints [116, 104, 101, 10, 99, 97, 116])) (hP : Bs w (.slice Ap 0 cp) (ints [])) :
    Calls Tryz.prog 9 #[ag0 At ct Ap cp] w fun e w' => e = .returned (.tuple #[.string ⟨#[97, 100, 100, 32, 97, 32, 116, 104, 101, 92, 48, 97, 99, 97, 116]⟩, .int .i64 0]) ∧ Kp (fun _ => False) w w' := by
  have h := line_at a0 hE At ct Ap cp hT hP
  rw [lineV_yes may_a0, line_a0] at h
  exact h
theorem act0_at {w : World} (hE : Ev w) : Calls Tryz.prog 11 #[.string ⟨#[97, 100, 100, 32, 97, 32, 116, 104, 101, 92, 48, 97, 99, 97, 116]⟩] w fun e w' => (∃ (At : Option Addr) (ct : Nat) (Ap : Option Addr) (cp : Nat), e = .returned (.tuple #[ag0 At ct Ap cp, .int .i64 0]) ∧ Bs w' (.slice At 7 ct) (ints [116, 104, 101, 10, 99, 97, 116]) ∧ Bs w' (.slice Ap 0 cp) (ints [])) ∧ Kp (fun _ => False) w w' := by
  refine (act_at (l := ln0) (by decide) hE).mono ?_
  rintro e w' ⟨⟨a, At, ct, Ap, cp, ok, rfl, hs, _, hT, hP⟩, hk⟩
  obtain ⟨h1, h2⟩ := says_one hs says_a0
  subst h1
  obtain rfl := h2 rfl
  exact ⟨⟨At, ct, Ap, cp, rfl, hT, hP⟩, hk⟩
theorem same0_at {w : World} {At Ap Bt Bp : Option Addr} {ct cp dt dp : Nat} (hT1 : Bs w (.slice At 7 ct) (ints [116, 104, 101, 10, 99, 97, 116])) (hP1 : Bs w (.slice Ap 0 cp) (ints [])) (hT2 : Bs w (.slice Bt 7 dt) (ints [116, 104, 101, 10, 99, 97, 116])) (hP2 : Bs w (.slice Bp 0 dp) (ints [])) :
    Calls Tryz.prog 13 #[ag0 At ct Ap cp, ag0 Bt dt Bp dp] w fun e w' => e = .returned (.bool true) ∧ Kp (fun _ => False) w w' := same_at a0 hT1 hP1 hT2 hP2
theorem print0_at (w : World) (hE : Ev w) (b : Nat) (At : Option Addr) (ct : Nat) (Ap : Option Addr) (cp : Nat) (hT : Bs w (.slice At 7 ct) (ints [116, 104, 101, 10, 99, 97, 116])) (hP : Bs w (.slice Ap 0 cp) (ints [])) (hr : w.rangeAt b 0 [.int .i64 4, .string ⟨#[97]⟩, .slice At 7 ct, .int .i64 0, .slice Ap 0 cp]) :
    Calls Tryz.prog 24 #[sv b] w fun e w' => e = .returned (.tuple #[.string ⟨#[112, 97, 103, 101, 115, 32, 57, 10, 99, 97, 99, 104, 101, 32, 51, 10, 99, 97, 112, 32, 52, 10, 97, 100, 100, 32, 97, 32, 116, 104, 101, 92, 48, 97, 99, 97, 116, 10]⟩, .int .i64 0]) ∧ Kp (fun _ => False) w w' := by
  have h := print_one a0 may_a0 (by rw [line_a0]; decide) w hE b At ct Ap cp hT hP hr
  rw [text_a0] at h
  exact h
/-- The act's own row in memory. -/
theorem row_new (w : World) (v0 v1 v2 v3 v4 : Value) : (w.alloc (.cells #[v0, v1, v2, v3, v4] 24)).rangeAt w.heap.size 0 [v0, v1, v2, v3, v4] := fun j v hv => by
  rw [Lib.cell_of_heap (_root_.Go.heap_alloc_new w _)]
  simpa using hv
theorem row_sees {w w' : World} {b : Nat} {v0 v1 v2 v3 v4 : Value} (h : w.rangeAt b 0 [v0, v1, v2, v3, v4]) (hk : Kp (fun _ => False) w w') : w'.cell? ⟨b, 0, none⟩ = some v0 ∧ w'.cell? ⟨b, 1, none⟩ = some v1 ∧ w'.cell? ⟨b, 2, none⟩ = some v2 ∧ w'.cell? ⟨b, 3, none⟩ = some v3 ∧ w'.cell? ⟨b, 4, none⟩ = some v4 :=
  ⟨hk.see (h 0 v0 rfl) id, hk.see (h 1 v1 rfl) id, hk.see (h 2 v2 rfl) id, hk.see (h 3 v3 rfl) id, hk.see (h 4 v4 rfl) id⟩
set_option maxHeartbeats 4000000 in
theorem live_at {w : World} (hE : Ev w) : Calls Tryz.prog 8 #[] w fun e w' => e = .returned (.bool true) ∧ Kp (fun _ => False) w w' := by
  have hE := Hd.mk hE
  have kc := fun (w : World) (C : Array Value) (n c : Nat) => Lib.run_convert_bytes_const (P := Tryz.prog) w 22 5 C n c Tryz.underlying22 Tryz.underlying5
  have B0 := Hd.mk (bs_new w)
  have K0 : Hd (Kp (fun _ => False) w (w.alloc (.cells #[.int .u8 116, .int .u8 104, .int .u8 101, .int .u8 10, .int .u8 99, .int .u8 97, .int .u8 116] 5 (7, 8)))) := ⟨(Kp.refl _ w).alloc _⟩
  have R1 := Hd.mk (row_new (w.alloc (.cells #[.int .u8 116, .int .u8 104, .int .u8 101, .int .u8 10, .int .u8 99, .int .u8 97, .int .u8 116] 5 (7, 8))) (.int .i64 4) (.string ⟨#[97]⟩) (.slice (some ⟨w.heap.size, 0, none⟩) 7 7) (.int .i64 0) (.slice none 0 0))
  have K1 : Hd (Kp (fun _ => False) w ((w.alloc (.cells #[.int .u8 116, .int .u8 104, .int .u8 101, .int .u8 10, .int .u8 99, .int .u8 97, .int .u8 116] 5 (7, 8))).alloc (.cells #[.int .i64 4, .string ⟨#[97]⟩, .slice (some ⟨w.heap.size, 0, none⟩) 7 7, .int .i64 0, .slice none 0 0] 24))) := ⟨K0.out.alloc _⟩
  have K01 : Hd (Kp (fun _ => False) (w.alloc (.cells #[.int .u8 116, .int .u8 104, .int .u8 101, .int .u8 10, .int .u8 99, .int .u8 97, .int .u8 116] 5 (7, 8))) ((w.alloc (.cells #[.int .u8 116, .int .u8 104, .int .u8 101, .int .u8 10, .int .u8 99, .int .u8 97, .int .u8 116] 5 (7, 8))).alloc (.cells #[.int .i64 4, .string ⟨#[97]⟩, .slice (some ⟨w.heap.size, 0, none⟩) 7 7, .int .i64 0, .slice none 0 0] 24))) := ⟨(Kp.refl _ _).alloc _⟩
  have hb : Hd ((w.alloc (.cells #[.int .u8 116, .int .u8 104, .int .u8 101, .int .u8 10, .int .u8 99, .int .u8 97, .int .u8 116] 5 (7, 8))).heap.size = w.heap.size + 1) := ⟨by show (w.heap.push _).size = _; simp⟩
  rw [hb.out] at R1
  have B1 := Hd.mk (bs_kp B0.out K01.out)
  go_enter Tryz.func8, Tryz.ntmps8
  go_wp2_with fail
  refine (line0_at (hE.out.keep K1.out) _ _ _ _ B1.out (bs_nil _)).mono ?_
  rintro e w2 ⟨rfl, k2⟩
  have B2 := Hd.mk (bs_kp B1.out k2)
  have K2 := Hd.mk (K1.out.andThen k2 (fun _ _ h => h))
  have R2 := Hd.mk (range_keep R1.out k2)
  clear B0 B1 K0 K1 K01 R1 k2
  go_wp2_with fail
  refine (act0_at (hE.out.keep K2.out)).mono ?_
  rintro e w3 ⟨⟨At, ct, Ap, cp, rfl, hT, hP⟩, k3⟩
  have B3 := Hd.mk (bs_kp B2.out k3)
  have K3 := Hd.mk (K2.out.andThen k3 (fun _ _ h => h))
  have R3 := Hd.mk (range_keep R2.out k3)
  have T3 := Hd.mk hT
  have P3 := Hd.mk hP
  have K4 : Hd (Kp (fun _ => False) w3 (w3.alloc (.cells #[.int .i64 4, .string ⟨#[97]⟩, .slice At 7 ct, .int .i64 0, .slice Ap 0 cp] 24))) := ⟨(Kp.refl _ _).alloc _⟩
  have R4 := Hd.mk (row_new w3 (.int .i64 4) (.string ⟨#[97]⟩) (.slice At 7 ct) (.int .i64 0) (.slice Ap 0 cp))
  obtain ⟨d0, d1, d2, d3, d4⟩ := row_sees R3.out K4.out
  clear B2 K2 R2 k3 hT hP
  go_wp2_with fail
  have hs4 : Hd ((w3.alloc (.cells #[.int .i64 4, .string ⟨#[97]⟩, .slice At 7 ct, .int .i64 0, .slice Ap 0 cp] 24)).heap.size = w3.heap.size + 1) := ⟨by show (w3.heap.push _).size = _; simp⟩
  have R5 := Hd.mk (row_new (w3.alloc (.cells #[.int .i64 4, .string ⟨#[97]⟩, .slice At 7 ct, .int .i64 0, .slice Ap 0 cp] 24)) (.int .i64 4) (.string ⟨#[97]⟩) (.slice (some ⟨w.heap.size, 0, none⟩) 7 7) (.int .i64 0) (.slice none 0 0))
  rw [hs4.out] at R5
  have K5 : Hd (Kp (fun _ => False) w3 ((w3.alloc (.cells #[.int .i64 4, .string ⟨#[97]⟩, .slice At 7 ct, .int .i64 0, .slice Ap 0 cp] 24)).alloc (.cells #[.int .i64 4, .string ⟨#[97]⟩, .slice (some ⟨w.heap.size, 0, none⟩) 7 7, .int .i64 0, .slice none 0 0] 24))) := ⟨K4.out.alloc _⟩
  have K45 : Hd (Kp (fun _ => False) (w3.alloc (.cells #[.int .i64 4, .string ⟨#[97]⟩, .slice At 7 ct, .int .i64 0, .slice Ap 0 cp] 24)) ((w3.alloc (.cells #[.int .i64 4, .string ⟨#[97]⟩, .slice At 7 ct, .int .i64 0, .slice Ap 0 cp] 24)).alloc (.cells #[.int .i64 4, .string ⟨#[97]⟩, .slice (some ⟨w.heap.size, 0, none⟩) 7 7, .int .i64 0, .slice none 0 0] 24))) := ⟨(Kp.refl _ _).alloc _⟩
  have K03 := Hd.mk (K3.out.andThen K5.out (fun _ _ h => h))
  refine (print0_at _ (hE.out.keep K03.out) _ _ _ _ _ (bs_kp B3.out K5.out) (bs_nil _) R5.out).mono ?_
  rintro e w5 ⟨rfl, k5⟩
  have B5 := Hd.mk (bs_kp (bs_kp B3.out K5.out) k5)
  have T5 := Hd.mk (bs_kp (bs_kp T3.out K5.out) k5)
  have P5 := Hd.mk (bs_kp (bs_kp P3.out K5.out) k5)
  have kk5 := Hd.mk (K03.out.andThen k5 (fun _ _ h => h))
  clear d0 d1 d2 d3 d4
  obtain ⟨d0, d1, d2, d3, d4⟩ := row_sees R3.out (K5.out.andThen k5 (fun _ _ h => h))
  obtain ⟨f0, f1, f2, f3, f4⟩ := row_sees R4.out (K45.out.andThen k5 (fun _ _ h => h))
  clear hb hs4 R5 K5 K45 K03 B3 R3 R4 K4 K3 T3 P3 k5 kc
  go_wp2_with (go_at_call 13; refine (same0_at B5.out (bs_nil _) T5.out P5.out).mono ?_; rintro e w6 ⟨rfl, k6⟩; have K6 := Hd.mk (kk5.out.andThen k6 (fun _ _ h => h)); clear k6; dsimp only)
  go_ret
  exact ⟨rfl, K6.out⟩
end Go.Proofs.YtkcechpaeilaeaaGreatDoor
