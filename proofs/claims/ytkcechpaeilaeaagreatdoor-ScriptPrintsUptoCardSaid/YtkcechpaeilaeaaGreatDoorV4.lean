/- Print of a script of one act that may be. -/
import Derived.Test.YtkcechpaeilaeaaGreatDoorV3
import Derived.Test.YtkcechpaeilaeaaGreatDoorL9
namespace Go.Proofs.YtkcechpaeilaeaaGreatDoor
open Go.RowKit
set_option linter.unusedVariables false
set_option linter.unusedSimpArgs false
set_option maxRecDepth 100000

theorem cell_lt {w : World} {a : Addr} {v : Value} (h : w.cell? a = some v) : a.block < w.heap.size := by
  unfold World.cell? at h
  rcases Nat.lt_or_ge a.block w.heap.size with h1 | h1
  · exact h1
  · rw [Array.getElem?_eq_none h1] at h; simp at h
theorem range_below {w w' : World} {B b o : Nat} {cs : List Value} (h : w.rangeAt b o cs) (hk : Below B w w') (hb : b < B) : w'.rangeAt b o cs := fun j v hv => bsee hk (h j v hv) hb
/-- The head of the text of a script of nine pages, a cache of three and four pages at most. -/
def hd943 : List UInt8 := [112, 97, 103, 101, 115, 32, 57, 10, 99, 97, 99, 104, 101, 32, 51, 10, 99, 97, 112, 32, 52, 10]
theorem hd943_eq : [] ++ [112, 97, 103, 101, 115] ++ pkI [9] ++ [10] ++ [99, 97, 99, 104, 101] ++ pkI [3] ++ [10] ++ [99, 97, 112] ++ pkI [4] ++ [10] = hd943 := by
  have h9 : Lib.itoa 9 = [57] := digs_small (n := 9) (by decide)
  have h3 : Lib.itoa 3 = [51] := digs_small (n := 3) (by decide)
  have h4 : Lib.itoa 4 = [52] := digs_small (n := 4) (by decide)
  simp only [pkI, List.flatMap_cons, List.flatMap_nil, h9, h3, h4]
  rfl
theorem rowI_new (w : World) (ns : List Int) : rowI (w.alloc (.cells (ns.map (Value.int .i64)).toArray 3)) w.heap.size ns := _root_.Go.heap_alloc_new w _
theorem one_ok {z : Int} (h0 : 0 ≤ z) (h1 : z ≤ 9) : ∀ y ∈ [z], -9223372036854775808 ≤ y ∧ y ≤ 9223372036854775807 := by
  intro y hy; simp only [List.mem_singleton] at hy; subst hy; omega
/-- The closure's call with one number, which was packed for it. -/
theorem print1_one {w1 w2 : World} {l : List UInt8} {c : Nat} (h : Lx w1 w1.heap.size w2 l c) (hE : Ev w1) (hc : c ≤ 800000000) (s : List UInt8) (hs : s.length ≤ 10) (z : Int) (h0 : 0 ≤ z) (h1 : z ≤ 9) (r : Nat) (hr : r = w2.heap.size) :
    Calls Tryz.prog 65 #[.string ⟨s.toArray⟩, .slice (some ⟨r, 0, none⟩) 1 1, .pointer (some ⟨w1.heap.size, 0, none⟩)] (w2.alloc (.cells #[.int .i64 z] 3)) fun e w' => e = .returned (.tuple #[]) ∧ Lx w1 w1.heap.size w' (l ++ s ++ pkI [z] ++ [10]) (c + 111) := by
  subst hr
  refine (print1_at (h.keep ((Kp.refl _ w2).alloc (.cells #[.int .i64 z] 3))) hE rfl s 10 hs (by decide) hc [z] w2.heap.size (rowI_new w2 [z]) (Nat.ne_of_gt h.bd.lt) (by simp) (one_ok h0 h1)).mono ?_
  rintro e w' ⟨he, h2⟩
  exact ⟨he, h2.le (by simp)⟩
set_option maxHeartbeats 2000000 in
theorem print_one (a : A) (hm : may a) (hl : (line a).length ≤ 60000) (w : World) (hE : Ev w) (b : Nat) (At : Option Addr) (ct : Nat) (Ap : Option Addr) (cp : Nat) (hT : Bs w (.slice At a.t.length ct) (ints a.t)) (hP : Bs w (.slice Ap a.p.length cp) (ints a.p)) (hr : w.rangeAt b 0 [.int .i64 a.d, .string ⟨a.k.toArray⟩, .slice At a.t.length ct, .int .i64 a.n, .slice Ap a.p.length cp]) :
    Calls Tryz.prog 24 #[sv b] w fun e w' => e = .returned (.tuple #[.string ⟨(hd943 ++ line a ++ [10]).toArray⟩, .int .i64 0]) ∧ Kp (fun _ => False) w w' := by
  have hb : Hd (b < w.heap.size) := ⟨by
    have := hr 0 _ rfl
    exact cell_lt this⟩
  have cc : Hd (∀ w1, Kp (fun _ => False) (w.alloc (.cells #[.int .i64 9, .int .i64 3, .slice none 0 0, .slice none 0 0, .int .i64 4, .slice (some ⟨b, 0, none⟩) 1 1] 53)) w1 → w1.cell? ⟨w.heap.size, 0, none⟩ = some (.int .i64 9) ∧ w1.cell? ⟨w.heap.size, 1, none⟩ = some (.int .i64 3) ∧ w1.cell? ⟨w.heap.size, 2, none⟩ = some (.slice none 0 0) ∧ w1.cell? ⟨w.heap.size, 3, none⟩ = some (.slice none 0 0) ∧ w1.cell? ⟨w.heap.size, 4, none⟩ = some (.int .i64 4) ∧ w1.cell? ⟨w.heap.size, 5, none⟩ = some (.slice (some ⟨b, 0, none⟩) 1 1)) :=
    ⟨fun w1 hk => by
      refine ⟨?_, ?_, ?_, ?_, ?_, ?_⟩ <;> exact hk.see (by rw [Lib.cell_of_heap (_root_.Go.heap_alloc_new w _)]; rfl) id⟩
  have hc := Hd.mk (fun w1 (hk : Kp (fun _ => False) w w1) => scheck_one a hm w1 b At ct Ap cp (range_keep hr hk))
  have K0 : Hd (Kp (fun _ => False) w (w.alloc (.cells #[.int .i64 9, .int .i64 3, .slice none 0 0, .slice none 0 0, .int .i64 4, .slice (some ⟨b, 0, none⟩) 1 1] 53))) := ⟨(Kp.refl _ w).alloc _⟩
  have hr := Hd.mk hr
  have hE := Hd.mk hE
  have hT := Hd.mk hT
  have hP := Hd.mk hP
  have hl1 := Hd.mk hl
  have hm1 := Hd.mk hm
  clear hl hm
  go_enter Tryz.func24, Tryz.ntmps24
  go_wp2_with (go_at_call 26; refine (hc.out _ K0.out).mono ?_; rintro e w1 ⟨rfl, hk1⟩; have ccB : Hd (∀ w3, Below w1.heap.size w1 w3 → _) := ⟨fun w3 (hb3 : Below w1.heap.size w1 w3) => cc.out w3 (hk1.andThen (Kp.of_below hb3 _) (fun _ _ h => h))⟩; obtain ⟨d0, d1, d2, d3, d4, d5⟩ := ccB.out _ ((Below.refl _ w1).alloc (Nat.le_refl _) (.cells #[.pointer none, .slice none 0 0] 64)); have K1 := Hd.mk (K0.out.andThen hk1 (fun _ _ h => h)); clear hk1; have E1 := Hd.mk (hE.out.keep K1.out); have L1 := Hd.mk (Lx.fresh w1); have hbw : Hd (b < w1.heap.size) := ⟨Nat.lt_of_lt_of_le hb.out K1.out.size⟩; have R1 := Hd.mk (range_keep hr.out K1.out); have T1 : Hd (Bs w1 _ _) := ⟨Bs.keep hT.out (fun b hb _ => K1.out.block b hb id)⟩; have P1 : Hd (Bs w1 _ _) := ⟨Bs.keep hP.out (fun b hb _ => K1.out.block b hb id)⟩; clear hc hE hT hP hr; dsimp only)
  refine (print1_one L1.out E1.out (by decide) [112, 97, 103, 101, 115] (by decide) 9 (by decide) (by decide) _ (by show _ = (w1.heap.push _).size; simp)).mono ?_
  rintro e w2 ⟨rfl, L2⟩
  have L2 := Hd.mk L2
  clear L1 d0 d1 d2 d3 d4 d5
  obtain ⟨d0, d1, d2, d3, d4, d5⟩ := ccB.out _ L2.out.below
  go_wp2_with fail
  refine (print1_one L2.out E1.out (by decide) [99, 97, 99, 104, 101] (by decide) 3 (by decide) (by decide) _ rfl).mono ?_
  rintro e w3 ⟨rfl, L3⟩
  have L3 := Hd.mk L3
  clear L2 d0 d1 d2 d3 d4 d5
  obtain ⟨d0, d1, d2, d3, d4, d5⟩ := ccB.out _ L3.out.below
  go_wp2_with fail
  refine (print1_one L3.out E1.out (by decide) [99, 97, 112] (by decide) 4 (by decide) (by decide) _ rfl).mono ?_
  rintro e w4 ⟨rfl, L4⟩
  have L4 : Hd (Lx w1 w1.heap.size w4 hd943 333) := ⟨hd943_eq ▸ L4⟩
  clear L3 d0 d1 d2 d3 d4 d5
  obtain ⟨d0, d1, d2, d3, d4, d5⟩ := ccB.out _ L4.out.below
  go_wp2_with fail
  go_loopw [38] (fun v38 wr => v38 = .int .i64 0 ∧ w4 = wr) (fun _ _ => 0)
  case atStart => exact ⟨rfl, rfl⟩
  case round =>
    obtain ⟨rfl, rfl⟩ := hrel
    go_wp2_with fail
    go_loopw [58] (fun v38 wr => v38 = .int .i64 0 ∧ w4 = wr) (fun _ _ => 0)
    case atStart => exact ⟨rfl, rfl⟩
    case round =>
      obtain ⟨rfl, rfl⟩ := hrel
      go_wp2_with fail
      go_loopw [72] (fun v72 wr => (v72 = .int .i64 0 ∧ w4 = wr) ∨ (v72 = .int .i64 1 ∧ Hd (Lx w1 w1.heap.size wr (hd943 ++ line a ++ [10]) 60334))) (fun v72 _ => 1 - (intOf v72).toNat)
      case atStart => exact .inl ⟨rfl, rfl⟩
      case round =>
        rcases hrel with ⟨rfl, rfl⟩ | ⟨rfl, L5⟩
        · have R4 := Hd.mk (range_below R1.out L4.out.below hbw.out)
          have K5 : Hd (Lx w1 w1.heap.size (w4.alloc (.cells #[.int .i64 a.d, .string ⟨a.k.toArray⟩, .slice At a.t.length ct, .int .i64 a.n, .slice Ap a.p.length cp] 24)) hd943 333) := ⟨L4.out.keep ((Kp.refl _ w4).alloc _)⟩
          have hla := Hd.mk (line_at a (K5.out.ev rfl E1.out) At ct Ap cp (K5.out.bs rfl T1.out) (K5.out.bs rfl P1.out))
          rw [lineV_yes hm1.out] at hla
          obtain ⟨ln, hln⟩ : ∃ x, Hd (line a = x) := ⟨_, ⟨rfl⟩⟩
          rw [hln.out] at hla hl1
          clear hm1 T1 P1 R1 L4 d0 d1 d2 d3 d4 d5 cc ccB K0
          obtain ⟨d, k, t, n, p⟩ := a
          simp only at *
          go_wp2_with (first | (with_reducible refine wl_load_mid rfl 24 (.tmp 74) rfl b 0 rfl [.int .i64 d, .string ⟨k.toArray⟩, .slice At t.length ct, .int .i64 n, .slice Ap p.length cp] R4.out Tryz.underlying24 rfl (by kernel_rfl) ?_) | (go_at_call 9; refine hla.out.mono ?_; rintro e w5 ⟨rfl, hk5⟩; have L6 := Hd.mk (K5.out.keep hk5); clear hk5; dsimp only) | (go_at_call 65; go_loud ((with_reducible refine (print1_no L6.out _ 60000 hl1.out (by decide) (by decide)).mono ?_); rintro e w6 ⟨rfl, L7⟩; have L7 := Hd.mk L7; dsimp only)))
          exact ⟨.inr ⟨rfl, by rw [hln.out]; exact L7⟩, by simp [intOf]⟩
        · have hlen : (hd943 ++ line a ++ [10]).length ≤ 60023 := by
            have := hl1.out
            simp only [List.length_append, List.length_singleton]
            have : hd943.length = 22 := rfl
            omega
          obtain ⟨tx, htx⟩ : ∃ x, Hd (hd943 ++ line a ++ [10] = x) := ⟨_, ⟨rfl⟩⟩
          rw [htx.out] at L5 hlen
          have hlen2 : (tx.length : Int) ≤ 60023 := by omega
          clear hlen L4 hl1 hm1
          go_wp2_with (first | (go_at_call 37; refine (blen_at L5.out.bd).mono ?_; rintro e w7 ⟨rfl, rfl⟩; dsimp only) | (go_at_call 36; refine (lx_end L5.out).mono ?_; rintro e w2 ⟨rfl, L8⟩; have L8 := Hd.mk L8; dsimp only))
          go_ret2
          rw [htx.out]
          exact ⟨rfl, K1.out.andThen (Kp.of_below L8.out.below _) (fun _ _ h => h)⟩
end Go.Proofs.YtkcechpaeilaeaaGreatDoor
