/- What an argument of bytes, or an act, reads as: opened into memory; what the listed variables hold; the bridge to a row, with the world's shape. -/
import Derived.Test.YtkcechpaeilaeaaGreatDoorRows
import Derived.Test.YtkcechpaeilaeaaGreatDoorE1
import Derived.ProofKit
import Derived.OpenShut
import Derived.HandedShaped
import Derived.LaidMore
import Derived.LaidLaws
import Derived.Lib.LaidTab
import Derived.Lib.LaidU8
import Derived.Stop.LaidErr
import Derived.Stop.Joined
import Derived.MakeChecks
import Derived.Shelf.Vars
import Derived.Deep.Slices
import Derived.Deep.Fields
namespace Go.Proofs.YtkcechpaeilaeaaGreatDoor
open Go.ChangeShapes Go.WideShapes Go.ChangeAt Go.RowKit Go.Deep
set_option linter.unusedVariables false
set_option linter.unusedSimpArgs false
section
variable {H : Type} {enc : TypeId × Value → H} {w : World} {base : Nat} {spare : Nat → Bool} {held : Bool}

theorem byte_wf {n : Int} (h : (Lit.int .u8 n).wf = true) : 0 ≤ n ∧ n < 256 := by
  simp only [Lit.wf, Bool.and_eq_true, decide_eq_true_eq] at h
  have h1 : IntKind.u8.min = 0 := by decide
  have h2 : IntKind.u8.max = 255 := by decide
  rw [h1, h2] at h
  omega
/-- Cells in a row, behind an address that is a plain one. -/
theorem addr_plain {a : Addr} {v : Value} (h : w.cell? a = some v) : a = ⟨a.block, a.off, none⟩ := by
  have := World.cell?_spot h
  obtain ⟨b, o, s⟩ := a
  simp only at this
  subst this
  rfl
theorem add_none (b o i : Nat) : (⟨b, o, none⟩ : Addr).add i = ⟨b, o + i, none⟩ := Addr.add_mid b o i
/-- Whole numbers that are bytes, as bytes. -/
theorem ints_of {l : List Int} (h : ∀ n ∈ l, 0 ≤ n ∧ n < 256) : ∃ b : List UInt8, l = ints b := by
  refine ⟨l.map (fun n => UInt8.ofNat n.toNat), ?_⟩
  unfold ints
  rw [List.map_map]
  conv => lhs; rw [← List.map_id l]
  refine List.map_congr_left fun n hn => ?_
  obtain ⟨h0, h1⟩ := h n hn
  simp only [id, Function.comp]
  rw [UInt8.toNat_ofNat']
  omega
theorem open_bytes {fuel : Nat} {cs : List Value} {x : DataW H × List MemPlace} (h : DataW.trod enc Tryz.prog w base spare held fuel 22 cs = some x) : ∃ A c l, cs = [.slice A l.length c] ∧ Bs w (.slice A l.length c) (ints l) := by
  rcases open_ints Tryz.underlying22 Tryz.underlying5 (by kernel_rfl) h with ⟨rfl, _⟩ | ⟨a, len, cap, zs, rfl, _, hl, hm, hz, _, hcell, hwz⟩
  · exact ⟨none, 0, [], rfl, ⟨none, 0, rfl, Nat.le_refl _, .inl rfl⟩⟩
  · have hlz : len ≤ zs.length := by rw [hz]; split <;> omega
    have hll : (zs.take len).length = len := by rw [List.length_take]; omega
    obtain ⟨b, hb⟩ := ints_of (l := zs.take len) (fun n hn => byte_wf (hwz n (List.mem_of_mem_take hn)))
    have hbl : b.length = len := by
      have := congrArg List.length hb
      rw [hll] at this
      simp [ints] at this
      exact this.symm
    refine ⟨some a, cap, b, by rw [hbl], ⟨some a, cap, by rw [← hb, hll, hbl], by rw [← hb, hll]; exact hl, ?_⟩⟩
    rw [← hb]
    by_cases h0 : len = 0
    · left; subst h0; simp
    · right
      have hc0 := hcell 0 (by omega)
      have hap := addr_plain hc0
      have ha : a = ⟨a.block, a.off, none⟩ := by
        have : a.add 0 = a := by simp [Addr.add]
        rw [this] at hap
        exact hap
      refine ⟨a.block, a.off, congrArg some ha, fun j u hu => ?_⟩
      rw [u8s_get] at hu
      have hj : j < len := by
        rcases Nat.lt_or_ge j len with h | h
        · exact h
        · rw [List.getElem?_eq_none (by omega)] at hu; simp at hu
      have := hcell j (by omega)
      rw [ha, add_none] at this
      rw [this]
      rw [List.getElem?_take, if_pos hj] at hu
      rw [← hu, List.getD_eq_getElem?_getD, List.getElem?_eq_getElem (by omega)]
      rfl
theorem open_int_cell {fuel : Nat} {cs : List Value} {x : DataW H × List MemPlace} (h : DataW.trod enc Tryz.prog w base spare held fuel 3 cs = some x) : ∃ n, cs = [.int .i64 n] := by
  obtain ⟨n, rfl, _, hw⟩ := DataW.trod_int Tryz.underlying3 h
  exact ⟨n, rfl⟩
theorem open_str_cell {fuel : Nat} {cs : List Value} {x : DataW H × List MemPlace} (h : DataW.trod enc Tryz.prog w base spare held fuel 9 cs = some x) : ∃ l : List UInt8, cs = [.string ⟨l.toArray⟩] := by
  obtain ⟨s, rfl, _, _⟩ := DataW.trod_string Tryz.underlying9 h
  exact ⟨s.data.toList, by simp⟩
set_option maxRecDepth 100000 in
theorem open_act {fuel : Nat} {cs : List Value} {x : DataW H × List MemPlace} (h : DataW.trod enc Tryz.prog w base spare held fuel 24 cs = some x) :
    ∃ (a : A) (At : Option Addr) (ct : Nat) (Ap : Option Addr) (cp : Nat), cs = [.int .i64 a.d, .string ⟨a.k.toArray⟩, .slice At a.t.length ct, .int .i64 a.n, .slice Ap a.p.length cp] ∧ Bs w (.slice At a.t.length ct) (ints a.t) ∧ Bs w (.slice Ap a.p.length cp) (ints a.p) := by
  obtain ⟨xs, n, _, _, hcl, hxl, hf⟩ := DataW.trod_struct Tryz.underlying24 h
  have hc5 : cs.length = 5 := by rw [hcl]; kernel_rfl
  match cs, hc5 with
  | [c0, c1, c2, c3, c4], _ =>
    have hx5 : xs.length = 5 := hxl
    have g0 := hf 0 _ rfl
    have g1 := hf 1 _ rfl
    have g2 := hf 2 _ rfl
    have g3 := hf 3 _ rfl
    have g4 := hf 4 _ rfl
    rw [List.getElem?_eq_getElem (by omega)] at g0 g1 g2 g3 g4
    have p3 : Tryz.prog.cellsOf 3 = 1 := by kernel_rfl
    have p9 : Tryz.prog.cellsOf 9 = 1 := by kernel_rfl
    have p22 : Tryz.prog.cellsOf 22 = 1 := by kernel_rfl
    have q0 : DataW.trod enc Tryz.prog w base spare held n 3 (([c0, c1, c2, c3, c4].drop 0).take (Tryz.prog.cellsOf 3)) = some xs[0] := g0
    have q1 : DataW.trod enc Tryz.prog w base spare held n 9 (([c0, c1, c2, c3, c4].drop 1).take (Tryz.prog.cellsOf 9)) = some xs[1] := g1
    have q2 : DataW.trod enc Tryz.prog w base spare held n 22 (([c0, c1, c2, c3, c4].drop 2).take (Tryz.prog.cellsOf 22)) = some xs[2] := g2
    have q3 : DataW.trod enc Tryz.prog w base spare held n 3 (([c0, c1, c2, c3, c4].drop 3).take (Tryz.prog.cellsOf 3)) = some xs[3] := g3
    have q4 : DataW.trod enc Tryz.prog w base spare held n 22 (([c0, c1, c2, c3, c4].drop 4).take (Tryz.prog.cellsOf 22)) = some xs[4] := g4
    rw [p3] at q0 q3
    rw [p9] at q1
    rw [p22] at q2 q4
    clear g0 g1 g2 g3 g4
    have g0 : DataW.trod enc Tryz.prog w base spare held n 3 [c0] = some xs[0] := q0
    have g1 : DataW.trod enc Tryz.prog w base spare held n 9 [c1] = some xs[1] := q1
    have g2 : DataW.trod enc Tryz.prog w base spare held n 22 [c2] = some xs[2] := q2
    have g3 : DataW.trod enc Tryz.prog w base spare held n 3 [c3] = some xs[3] := q3
    have g4 : DataW.trod enc Tryz.prog w base spare held n 22 [c4] = some xs[4] := q4
    obtain ⟨a0, e0⟩ := open_int_cell g0
    obtain ⟨l1, e1⟩ := open_str_cell g1
    obtain ⟨A2, c2', l2, e2, b2⟩ := open_bytes g2
    obtain ⟨a3, e3⟩ := open_int_cell g3
    obtain ⟨A4, c4', l4, e4, b4⟩ := open_bytes g4
    injection e0 with e0
    injection e1 with e1
    injection e2 with e2
    injection e3 with e3
    injection e4 with e4
    subst e0 e1 e2 e3 e4
    exact ⟨⟨a0, l1, l2, a3, l4⟩, A2, c2', A4, c4', rfl, b2, b4⟩
end

/-! ### what the rows list -/
abbrev lays : List (String × DataW Unit) := [("math/bits.deBruijn32tab", Rows.laid_math_bits_deBruijn32tab), ("math/bits.deBruijn64tab", Rows.laid_math_bits_deBruijn64tab), ("internal/strconv.uint64pow10", Rows.laid_internal_strconv_uint64pow10), ("unicode/utf8.acceptRanges", Rows.laid_unicode_utf8_acceptRanges), ("strconv.ErrRange", Rows.laid_strconv_ErrRange), ("strconv.ErrSyntax", Rows.laid_strconv_ErrSyntax), ("unicode/utf8.first", Rows.laid_unicode_utf8_first)]
theorem star : "*" ++ "errors.errorString" = "*errors.errorString" := by decide
theorem row197 (u : TypeId) (h : Tryz.prog.typeName? 3 u = some "*errors.errorString") : u = 197 :=
  typeName_ptr_named (nm := "errors.errorString") (by rw [star]; kernel_rfl) (by kernel_rfl) (by decide) u (by rw [star]; exact h)
theorem ev_of_laid {W : World} (h : laidMetH Tryz.prog lays W) (hs : W.ShapedOpen Tryz.prog) : Ev W := by
  rw [MakeChecks.laidMetH_plain _ _ _ (by kernel_rfl)] at h
  have h3 := h.tail.tail
  have h5 := h3.tail.tail
  refine ⟨?_, ?_, ?_, ?_⟩
  · exact cell_of_shapedOpen_int (g := 0) (t := 3) hs (of_decide_eq_true (by kernel_rfl)) (zero := #[.int .i64 0]) (by kernel_rfl) rfl (by kernel_rfl) (by kernel_rfl) Tryz.underlying3
  · exact Lib.tabIs_of_head (g := 3) (by kernel_rfl) (by kernel_rfl) Tryz.underlying176 Tryz.underlying143 (by kernel_rfl) (by kernel_rfl) h3
  · obtain ⟨a, _, hv, _⟩ := laid_sentinel h5.tail (g := 4) (by kernel_rfl) (by kernel_rfl) Tryz.underlying70 row197 Tryz.underlying197 Tryz.underlying199 rfl rfl Tryz.underlying9 (by kernel_rfl) (by kernel_rfl)
    exact ⟨_, _, hv⟩
  · obtain ⟨a, _, hv, _⟩ := laid_sentinel h5 (g := 5) (by kernel_rfl) (by kernel_rfl) Tryz.underlying70 row197 Tryz.underlying197 Tryz.underlying199 rfl rfl Tryz.underlying9 (by kernel_rfl) (by kernel_rfl)
    exact ⟨_, _, hv⟩
end Go.Proofs.YtkcechpaeilaeaaGreatDoor
