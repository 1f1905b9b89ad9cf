/- What an argument of bytes, or of acts, reads as: opened into memory. -/
import Derived.Test.YtkcechpaeilaeaaL6
import Derived.ProofKit
import Derived.OpenShut
import Derived.Deep.Slices
import Derived.Deep.Fields
namespace Go.Proofs.Ytkcechpaeilaeaa
open Go.ChangeShapes Go.WideShapes Go.ChangeAt Go.RowKit Go.Deep
set_option linter.unusedVariables false
set_option linter.unusedSimpArgs false
section
variable {H : Type} {enc : TypeId × Value → H} {w : World} {base : Nat} {spare : Nat → Bool} {held : Bool}

theorem byte_wf {n : Int} (h : (Lit.int .u8 n).wf = true) : 0 ≤ n ∧ n < 256 := by
  simp only [Lit.wf, Bool.and_eq_true, decide_eq_true_eq] at h
  have h1 : IntKind.u8.min = 0 := by decide
  have h2 : IntKind.u8.max = 255 := by decide
  rw [h1, h2] at h
  omega
/-- Cells in a row, behind an address that is a plain one. -/
theorem addr_plain {a : Addr} {v : Value} (h : w.cell? a = some v) : a = ⟨a.block, a.off, none⟩ := by
  have := World.cell?_spot h
  obtain ⟨b, o, s⟩ := a
  simp only at this
  subst this
  rfl
theorem add_none (b o i : Nat) : (⟨b, o, none⟩ : Addr).add i = ⟨b, o + i, none⟩ := Addr.add_mid b o i
theorem open_bytes {fuel : Nat} {cs : List Value} {x : DataW H × List MemPlace} (h : DataW.trod enc Try.prog w base spare held fuel 23 cs = some x) : ∃ v l, cs = [v] ∧ Bs w v l ∧ Bytes l := by
  rcases open_ints Try.underlying23 Try.underlying5 (by kernel_rfl) h with ⟨rfl, _⟩ | ⟨a, len, cap, zs, rfl, _, hl, hm, hz, _, hcell, hwz⟩
  · exact ⟨_, [], rfl, ⟨none, 0, rfl, Nat.le_refl _, .inl rfl⟩, fun n hn => by simp at hn⟩
  · have hlz : len ≤ zs.length := by rw [hz]; split <;> omega
    have hll : (zs.take len).length = len := by rw [List.length_take]; omega
    refine ⟨_, zs.take len, rfl, ⟨some a, cap, by rw [hll], by rw [hll]; exact hl, ?_⟩, fun n hn => byte_wf (hwz n (List.mem_of_mem_take hn))⟩
    by_cases h0 : len = 0
    · left; subst h0; simp
    · right
      have hc0 := hcell 0 (by omega)
      have hap := addr_plain hc0
      have ha : a = ⟨a.block, a.off, none⟩ := by
        have : a.add 0 = a := by simp [Addr.add]
        rw [this] at hap
        exact hap
      refine ⟨a.block, a.off, congrArg some ha, fun j u hu => ?_⟩
      rw [u8s_get] at hu
      have hj : j < len := by
        rcases Nat.lt_or_ge j len with h | h
        · exact h
        · rw [List.getElem?_eq_none (by omega)] at hu; simp at hu
      have := hcell j (by omega)
      rw [ha, add_none] at this
      rw [this]
      rw [List.getElem?_take, if_pos hj] at hu
      rw [← hu, List.getD_eq_getElem?_getD, List.getElem?_eq_getElem (by omega)]
      rfl
instance : Inhabited OpM := ⟨⟨0, 0, 0, [], []⟩⟩
theorem i64_wf {n : Int} (h : (Lit.int .i64 n).wf = true) : n ≤ 9223372036854775807 := by
  simp only [Lit.wf, Bool.and_eq_true, decide_eq_true_eq] at h
  have h2 : IntKind.i64.max = 9223372036854775807 := by decide
  rw [h2] at h
  exact h.2
theorem open_int_cell {fuel : Nat} {cs : List Value} {x : DataW H × List MemPlace} (h : DataW.trod enc Try.prog w base spare held fuel 3 cs = some x) : ∃ n, cs = [.int .i64 n] ∧ n ≤ 9223372036854775807 := by
  obtain ⟨n, rfl, _, hw⟩ := DataW.trod_int Try.underlying3 h
  exact ⟨n, rfl, i64_wf hw⟩
theorem open_op {fuel : Nat} {cs : List Value} {x : DataW H × List MemPlace} (h : DataW.trod enc Try.prog w base spare held fuel 34 cs = some x) :
    ∃ (o : OpM) (vb vp : Value), cs = [.int .i64 o.act, .int .i64 o.p, .int .i64 o.n, vb, vp] ∧ Bs w vb o.b ∧ Bs w vp o.pick ∧ Bytes o.b ∧ Bytes o.pick ∧ o.n ≤ 9223372036854775807 := by
  obtain ⟨xs, n, _, _, hcl, hxl, hf⟩ := DataW.trod_struct Try.underlying34 h
  have hc5 : cs.length = 5 := by rw [hcl]; kernel_rfl
  match cs, hc5 with
  | [c0, c1, c2, c3, c4], _ =>
    have hx5 : xs.length = 5 := hxl
    have g0 := hf 0 _ rfl
    have g1 := hf 1 _ rfl
    have g2 := hf 2 _ rfl
    have g3 := hf 3 _ rfl
    have g4 := hf 4 _ rfl
    rw [List.getElem?_eq_getElem (by omega)] at g0 g1 g2 g3 g4
    have p3 : Try.prog.cellsOf 3 = 1 := by kernel_rfl
    have p23 : Try.prog.cellsOf 23 = 1 := by kernel_rfl
    have q0 : DataW.trod enc Try.prog w base spare held n 3 (([c0, c1, c2, c3, c4].drop 0).take (Try.prog.cellsOf 3)) = some xs[0] := g0
    have q1 : DataW.trod enc Try.prog w base spare held n 3 (([c0, c1, c2, c3, c4].drop 1).take (Try.prog.cellsOf 3)) = some xs[1] := g1
    have q2 : DataW.trod enc Try.prog w base spare held n 3 (([c0, c1, c2, c3, c4].drop 2).take (Try.prog.cellsOf 3)) = some xs[2] := g2
    have q3 : DataW.trod enc Try.prog w base spare held n 23 (([c0, c1, c2, c3, c4].drop 3).take (Try.prog.cellsOf 23)) = some xs[3] := g3
    have q4 : DataW.trod enc Try.prog w base spare held n 23 (([c0, c1, c2, c3, c4].drop 4).take (Try.prog.cellsOf 23)) = some xs[4] := g4
    rw [p3] at q0 q1 q2
    rw [p23] at q3 q4
    clear g0 g1 g2 g3 g4
    have g0 : DataW.trod enc Try.prog w base spare held n 3 [c0] = some xs[0] := q0
    have g1 : DataW.trod enc Try.prog w base spare held n 3 [c1] = some xs[1] := q1
    have g2 : DataW.trod enc Try.prog w base spare held n 3 [c2] = some xs[2] := q2
    have g3 : DataW.trod enc Try.prog w base spare held n 23 [c3] = some xs[3] := q3
    have g4 : DataW.trod enc Try.prog w base spare held n 23 [c4] = some xs[4] := q4
    obtain ⟨a0, e0, -⟩ := open_int_cell g0
    obtain ⟨a1, e1, -⟩ := open_int_cell g1
    obtain ⟨a2, e2, w2⟩ := open_int_cell g2
    obtain ⟨v3, l3, e3, b3, y3⟩ := open_bytes g3
    obtain ⟨v4, l4, e4, b4, y4⟩ := open_bytes g4
    injection e0 with e0
    injection e1 with e1
    injection e2 with e2
    injection e3 with e3
    injection e4 with e4
    subst e0 e1 e2 e3 e4
    exact ⟨⟨a0, a1, a2, l3, l4⟩, c3, c4, rfl, b3, b4, y3, y4, w2⟩
theorem open_ops {fuel : Nat} {cs : List Value} {x : DataW H × List MemPlace} (h : DataW.trod enc Try.prog w base spare held fuel 22 cs = some x) : ∃ v l, cs = [v] ∧ Os w v l ∧ ∀ x ∈ l, x.n ≤ 9223372036854775807 := by
  rcases open_slice Try.underlying22 h with ⟨rfl, _⟩ | ⟨a, len, cap, m, n, D, Pl, rfl, _, hl, hm, hmm, _, hx⟩
  · exact ⟨_, [], rfl, ⟨none, 0, rfl, Nat.le_refl _, .inl rfl⟩, fun x hx => by simp at hx⟩
  · have hlm : len ≤ m := by rw [hmm]; split <;> omega
    have p34 : Try.prog.cellsOf 34 = 5 := by kernel_rfl
    rw [p34] at hx
    obtain ⟨f, hf⟩ := choose_lt (n := len) (p := fun i (o : OpM) => ∃ vb vp, (∀ j u, [Value.int .i64 o.act, .int .i64 o.p, .int .i64 o.n, vb, vp][j]? = some u → w.cell? ((a.add (i * 5)).add j) = some u) ∧ Bs w vb o.b ∧ Bs w vp o.pick ∧ Bytes o.b ∧ Bytes o.pick ∧ o.n ≤ 9223372036854775807) (fun i hi => by
      obtain ⟨cs', h1, h2⟩ := hx i (by omega)
      obtain ⟨o, vb, vp, rfl, h3⟩ := open_op h2
      obtain ⟨_, _, hcell⟩ := World.cells?_some h1
      refine ⟨o, vb, vp, fun j u hu => ?_, h3⟩
      have hj : j < 5 := by have := (List.getElem?_eq_some_iff.1 hu).1; simpa using this
      rw [hcell j hj]
      exact hu)
    have hll : ((List.range len).map f).length = len := by simp
    refine ⟨_, (List.range len).map f, rfl, ⟨some a, cap, by rw [hll], by rw [hll]; exact hl, ?_⟩, fun x hx => ?_⟩
    case refine_2 =>
      obtain ⟨i, hi, rfl⟩ := List.mem_map.1 hx
      obtain ⟨_, _, _, _, _, _, _, hn⟩ := hf i (List.mem_range.1 hi)
      exact hn
    by_cases h0 : len = 0
    · left; subst h0; rfl
    · right
      obtain ⟨vb0, vp0, hc0, _⟩ := hf 0 (by omega)
      have hap := addr_plain (hc0 0 _ rfl)
      have e00 : (a.add (0 * 5)).add 0 = a := by simp [Addr.add]
      rw [e00] at hap
      refine ⟨a.block, a.off, congrArg some hap, fun i o ho => ?_⟩
      have hi : i < len := by
        have := (List.getElem?_eq_some_iff.1 ho).1
        simpa using this
      have ho' : f i = o := by
        rw [List.getElem?_map, List.getElem?_range hi] at ho
        injection ho
      obtain ⟨vb, vp, hc, hr⟩ := hf i hi
      rw [ho'] at hc hr
      refine ⟨vb, vp, fun j u hu => ?_, hr.1, hr.2.1, hr.2.2.1, hr.2.2.2.1⟩
      have := hc j u hu
      rw [hap, add_none, add_none] at this
      exact this
end
end Go.Proofs.Ytkcechpaeilaeaa
