/- The text of a script of one act. -/
import Derived.Test.YtkcechpaeilaeaaGreatDoorV2
import Derived.Test.YtkcechpaeilaeaaGreatDoorE2
namespace Go.Proofs.YtkcechpaeilaeaaGreatDoor
open Go.RowKit
set_option linter.unusedVariables false
set_option linter.unusedSimpArgs false
set_option maxRecDepth 100000

/-- Numbers, a space ahead of each. -/
def pkI (ns : List Int) : List UInt8 := ns.flatMap fun z => 32 :: Lib.itoa z
theorem pkI_take {p : List Int} {j : Nat} {c : Int} (h : p[j]? = some c) : pkI (p.take (j + 1)) = pkI (p.take j) ++ (32 :: Lib.itoa c) := by
  obtain ⟨h1, rfl⟩ := List.getElem?_eq_some_iff.1 h
  unfold pkI
  rw [List.take_succ_eq_append_getElem h1, List.flatMap_append]
  simp only [List.flatMap_cons, List.flatMap_nil, List.append_nil]
/-- The row of whole numbers that a call packed, in block r. -/
def rowI (w : World) (r : Nat) (ns : List Int) : Prop := w.heap[r]? = some (.cells (ns.map (Value.int .i64)).toArray 3 (0, 0))
theorem rowI.keep {w w' : World} {r : Nat} {ns : List Int} (h : rowI w r ns) (hk : Kp (fun _ => False) w w') : rowI w' r ns := hk.keeps h id
theorem rowI.wr {w w' : World} {r B : Nat} {ns : List Int} (h : rowI w r ns) (hr : r ≠ B) (hk : Lib.OthersKept 5 (some B) w w') : rowI w' r ns :=
  hk r _ h (by simpa using hr) (by intro cs fz hf; cases hf)
theorem lx_str' {w1 wr : World} {B : Nat} {l : List UInt8} {c : Nat} (h : Lx w1 B wr l c) (s : List UInt8) (g : Nat) (hs : s.length ≤ g) (hg : g ≤ 100000) (hc : c ≤ 900000000) :
    Calls Tryz.prog 35 #[.pointer (some ⟨B, 0, none⟩), .string ⟨s.toArray⟩] wr fun e w' => (∃ x, e = .returned (.tuple #[x, .nilIface])) ∧ Lx w1 B w' (l ++ s) (c + g) ∧ Lib.OthersKept 5 (some B) wr w' := by
  refine (wstr_at h.bd ⟨s.toArray⟩ (by have := h.len; omega) (by rw [sz]; omega)).mono ?_
  rintro e w' ⟨he, h1, h2⟩
  exact ⟨he, ⟨h1, h.below.trans h2.below, by have := h.len; rw [List.length_append]; omega⟩, h2.others⟩
set_option maxHeartbeats 1000000 in
theorem print1_at {w1 wr : World} {B : Nat} {l : List UInt8} {c : Nat} (h : Lx w1 B wr l c) (hE : Ev w1) (hsz : w1.heap.size = B) (s : List UInt8) (g : Nat) (hs : s.length ≤ g) (hg : g ≤ 100000) (hc : c ≤ 800000000)
    (ns : List Int) (r : Nat) (hr : rowI wr r ns) (hrB : r ≠ B) (hn : ns.length ≤ 100) (hi : ∀ z ∈ ns, -9223372036854775808 ≤ z ∧ z ≤ 9223372036854775807) :
    Calls Tryz.prog 65 #[.string ⟨s.toArray⟩, .slice (some ⟨r, 0, none⟩) ns.length ns.length, .pointer (some ⟨B, 0, none⟩)] wr fun e w' => e = .returned (.tuple #[]) ∧ Lx w1 B w' (l ++ s ++ pkI ns ++ [10]) (c + g + 100 * ns.length + 1) := by
  have hy := Hd.mk (And.intro hs (And.intro hg hc))
  have hL := Hd.mk h
  have hE := Hd.mk hE
  have hr := Hd.mk hr
  have hi := Hd.mk hi
  have hrB := Hd.mk hrB
  have hsz := Hd.mk hsz
  have hn := Hd.mk hn
  clear h hs hg hc
  go_enter Tryz.func65, Tryz.ntmps65
  go_wp2_with (go_at_call 35; refine (lx_str' hL.out s g hy.out.1 hy.out.2.1 (by have := hy.out; omega)).mono ?_; rintro e w2 ⟨⟨x, rfl⟩, h2', h3⟩; have h2 := Hd.mk h2'; clear h2'; have hR : Hd (rowI w2 r ns) := ⟨hr.out.wr hrB.out h3⟩; clear h3; dsimp only)
  go_loopw [11] (fun v11 wr => ∃ j : Nat, v11 = .int .i64 j ∧ (j : Int) ≤ (ns.length : Int) ∧ Hd (Lx w1 B wr (l ++ s ++ pkI (ns.take j)) (c + g + 100 * j)) ∧ Hd (rowI wr r ns)) (fun v11 _ => ns.length - (intOf v11).toNat)
  case atStart => exact ⟨0, rfl, by omega, ⟨by simpa [pkI] using h2.out⟩, hR⟩
  case round =>
    clear hL h2 hr hR
    obtain ⟨j, rfl, hj, hL, hR⟩ := hrel
    by_cases hlt : j < ns.length
    · have hlt2 : (j : Int) < ns.length := by omega
      have hc1 : wr.cell? ⟨r, j, none⟩ = some (.int .i64 ns[j]) := by
        rw [Lib.cell_of_heap hR.out]; simp [hlt]
      have hpj := Hd.mk (pkI_take (List.getElem?_eq_getElem hlt))
      have hz := Hd.mk (hi.out _ (List.getElem_mem hlt))
      generalize ns[j] = z at *
      have q1 := Lib.itoa_length_le z hz.out.1 hz.out.2
      have g4 : Hd ((32 :: Lib.itoa z).length ≤ 100) := ⟨by simp only [List.length_cons]; omega⟩
      have l4 : Hd (([32] : List UInt8).length + (Lib.itoa z).length ≤ 9000000000000000000) := ⟨by simp only [List.length_cons, List.length_nil]; omega⟩
      have b4 : Hd (c + g + 100 * j ≤ 900000000) := ⟨by have := hy.out; have := hn.out; omega⟩
      clear q1 hlt
      go_wp2_with (first | (go_at_call 41; refine (itoa_at z hz.out.1 hz.out.2 (hL.out.ev hsz.out hE.out)).mono ?_; rintro e w2 ⟨rfl, hk1⟩; have hB2 := Hd.mk (hL.out.keep hk1); have hR2 := Hd.mk (hR.out.keep hk1); clear hL hR hk1; dsimp only) | (with_reducible refine wl_run rfl (ex_scat _ 9 9 (.const (.string ⟨#[32]⟩)) (.tmp 16) rfl [32] (Lib.itoa z) l4.out rfl rfl) ?_) | (go_at_call 35; (with_reducible refine (lx_str' hB2.out _ _ g4.out (by omega) b4.out).mono ?_); rintro e w3 ⟨⟨x, rfl⟩, hB3, hO⟩; have hR3 := Hd.mk (hR2.out.wr hrB.out hO); clear hB2 hR2 hO; have hB3 := Hd.mk hB3; dsimp only))
      refine ⟨⟨j + 1, by go_num, by omega, ⟨?_⟩, hR3⟩, by simp [intOf]; omega⟩
      rw [hpj.out, ← List.append_assoc]
      exact hB3.out.le (by omega)
    · have hk2 : (j : Int) = ns.length := by omega
      have hk3 : j = ns.length := by omega
      have hB2 : Hd (Lx w1 B wr (l ++ s ++ pkI ns) (c + g + 100 * ns.length)) := ⟨by
        have := hL.out
        rw [show ns.take j = ns by rw [hk3, List.take_length], hk3] at this
        exact this⟩
      have b4 : Hd (c + g + 100 * ns.length ≤ 900000000) := ⟨by have := hy.out; have := hn.out; omega⟩
      clear hk3 hlt hL
      go_wp2_with (go_at_call 59; refine (lx_byte hB2.out 10 10 (by decide) b4.out).mono ?_; rintro e w2 ⟨rfl, hB3⟩; clear hB2; have hB3 := Hd.mk hB3; dsimp only)
      go_end0
      exact ⟨rfl, hB3.out⟩
theorem print1_no {w1 wr : World} {B : Nat} {l : List UInt8} {c : Nat} (h : Lx w1 B wr l c) (s : List UInt8) (g : Nat) (hs : s.length ≤ g) (hg : g ≤ 100000) (hc : c ≤ 800000000) :
    Calls Tryz.prog 65 #[.string ⟨s.toArray⟩, .slice none 0 0, .pointer (some ⟨B, 0, none⟩)] wr fun e w' => e = .returned (.tuple #[]) ∧ Lx w1 B w' (l ++ s ++ [10]) (c + g + 1) := by
  have hy := Hd.mk (And.intro hs (And.intro hg hc))
  have hL := Hd.mk h
  clear h hs hg hc
  go_enter Tryz.func65, Tryz.ntmps65
  go_wp2_with (go_at_call 35; refine (lx_str hL.out s g hy.out.1 hy.out.2.1 (by have := hy.out; omega)).mono ?_; rintro e w2 ⟨⟨x, rfl⟩, h2⟩; have h2 := Hd.mk h2; dsimp only)
  go_loopw [11] (fun v11 wr => v11 = .int .i64 0 ∧ w2 = wr) (fun v11 _ => 0)
  case atStart => exact ⟨rfl, rfl⟩
  case round =>
    obtain ⟨rfl, rfl⟩ := hrel
    have b4 : Hd (c + g ≤ 900000000) := ⟨by have := hy.out; omega⟩
    go_wp2_with (go_at_call 59; refine (lx_byte h2.out 10 10 (by decide) b4.out).mono ?_; rintro e w3 ⟨rfl, hB3⟩; have hB3 := Hd.mk hB3; dsimp only)
    go_end0
    exact ⟨rfl, hB3.out⟩
end Go.Proofs.YtkcechpaeilaeaaGreatDoor
