/- An act that is being read: its variable, and the result's. -/
import Derived.Test.YtkcechpaeilaeaaGreatDoorC2
import Derived.Test.YtkcechpaeilaeaaGreatDoorQ6
import Derived.Laws.ResultCell
namespace Go.Proofs.YtkcechpaeilaeaaGreatDoor
open Go.RowKit
set_option linter.unusedVariables false
set_option linter.unusedSimpArgs false
set_option maxRecDepth 20000

abbrev Z5 : List Value := [.int .i64 0, .string ⟨#[]⟩, .slice none 0 0, .int .i64 0, .slice none 0 0]
structure Av (w wr : World) (Z A : Nat) (v0 v1 v2 v3 v4 : Value) : Prop where
  old : Below w.heap.size w wr
  zero : Blk wr Z Z5 24
  act : Blk wr A [v0, v1, v2, v3, v4] 24
  hz : w.heap.size ≤ Z
  ne : Z < A
section
variable {w wr wr' : World} {Z A : Nat} {v0 v1 v2 v3 v4 : Value}
theorem Av.c0 (h : Av w wr Z A v0 v1 v2 v3 v4) : wr.cell? ⟨A, 0, none⟩ = some v0 := (h.act.cell 0).trans rfl
theorem Av.c1 (h : Av w wr Z A v0 v1 v2 v3 v4) : wr.cell? ⟨A, 1, none⟩ = some v1 := (h.act.cell 1).trans rfl
theorem Av.c2 (h : Av w wr Z A v0 v1 v2 v3 v4) : wr.cell? ⟨A, 2, none⟩ = some v2 := (h.act.cell 2).trans rfl
theorem Av.c3 (h : Av w wr Z A v0 v1 v2 v3 v4) : wr.cell? ⟨A, 3, none⟩ = some v3 := (h.act.cell 3).trans rfl
theorem Av.c4 (h : Av w wr Z A v0 v1 v2 v3 v4) : wr.cell? ⟨A, 4, none⟩ = some v4 := (h.act.cell 4).trans rfl
theorem Av.all (h : Av w wr Z A v0 v1 v2 v3 v4) : wr.rangeAt A 0 [v0, v1, v2, v3, v4] := h.act.range 0 5
theorem Av.keep (h : Av w wr Z A v0 v1 v2 v3 v4) (hk : Kp (fun _ => False) wr wr') : Av w wr' Z A v0 v1 v2 v3 v4 :=
  ⟨h.old.trans (hk.toBelow h.old.size (fun _ h => h.elim)), hk.keeps h.zero id, hk.keeps h.act id, h.hz, h.ne⟩
theorem Av.lt (h : Av w wr Z A v0 v1 v2 v3 v4) : A < wr.heap.size := blk_lt h.act
theorem Av.set (h : Av w wr Z A v0 v1 v2 v3 v4) (i : Nat) (v : Value) {u0 u1 u2 u3 u4 : Value} (e : [v0, v1, v2, v3, v4].set i v = [u0, u1, u2, u3, u4]) : Av w (wr.setCell ⟨A, i, none⟩ v) Z A u0 u1 u2 u3 u4 := by
  refine ⟨h.old.setCell (p := ⟨A, i, none⟩) (Nat.le_trans h.hz (Nat.le_of_lt h.ne)) v, h.zero.other _ _ (fun e => by have := h.ne; simp only at e; omega), ?_, h.hz, h.ne⟩
  have := h.act.set i v
  rw [e] at this
  exact this
theorem Av.kp (A i : Nat) (v : Value) (wr : World) : Kp (· = A) wr (wr.setCell ⟨A, i, none⟩ v) := (Kp.refl _ wr).setCell _ _ (.inr rfl)
theorem ev_set {wr : World} (h : Ev wr) {w : World} {Z A : Nat} {v0 v1 v2 v3 v4 : Value} (hv : Av w wr Z A v0 v1 v2 v3 v4) (hE : Ev w) (i : Nat) (v : Value) {u0 u1 u2 u3 u4 : Value} (hv2 : Av w (wr.setCell ⟨A, i, none⟩ v) Z A u0 u1 u2 u3 u4) : Ev (wr.setCell ⟨A, i, none⟩ v) := ev_below hE hv2.old
theorem Av.ev (h : Av w wr Z A v0 v1 v2 v3 v4) (hE : Ev w) : Ev wr := ev_below hE h.old
section
variable {ops : Array Oper} {rest : List Oper} {o : Oper} {a : Act} {Q : Exit → Act → World → Prop}
/-- A field is stored. -/
theorem wl_av {ty : Nat} (hg : o.guard = none) (x y : Operand) (ho : o.op = .store ty x y) (h : Av w wr Z A v0 v1 v2 v3 v4) (i : Nat) (v : Value) (hi : (Tryz.prog.info? ty).map (·.size) = some 1) (hx : a.eval x = .pointer (some ⟨A, i, none⟩)) (hy : a.eval y = v) (hv : v.cells = #[v]) (h1 : v.oneCell' = true)
    {u0 u1 u2 u3 u4 : Value} (e : [v0, v1, v2, v3, v4].set i v = [u0, u1, u2, u3, u4]) {old : Value} (hc : [v0, v1, v2, v3, v4][i]? = some old)
    (hn : ∀ w2, Av w w2 Z A u0 u1 u2 u3 u4 → Kp (· = A) wr w2 → wpList Tryz.prog ops Q rest (a.put o.dst undef) w2) : wpList Tryz.prog ops Q (o :: rest) a wr :=
  wpList_plain hg fun _ hK => ow_store ty x y v old ho ⟨A, i, none⟩ hi hx hy hv h1 ((h.act.cell i).trans hc) (h.act.free i) (hK _ _ (hn _ (h.set i v e) (Av.kp A i v wr)))
end
end
/-- The result of a call whose first result is an act's cell. -/
theorem results_act {fn : Func} {p u : Tmp} (h : fn.results = #[.cell p 24, .tmp u]) (tmps : Array Value) (w : World) (Z : Nat) (cs : List Value) (hp : tmps.getD p undef = .pointer (some ⟨Z, 0, none⟩)) (hb : Blk w Z cs 24) (hl : cs.length = 5) :
    (results fn tmps).run Tryz.prog w = .ok (.tuple #[.agg cs.toArray, tmps.getD u undef]) w := by
  have hr := hb.range 0 cs.length
  rw [List.drop_zero, List.take_length] at hr
  rw [results_cell_tmp h, hp]
  simp only [asAddr, Sem.run_pure, Result.andThen_ok]
  rw [run_loadVar_mid w Z 0 24 cs _ hr Tryz.underlying24 rfl (by rw [hl]; kernel_rfl)]
  rfl
/-- What reading a line answers. -/
structure ActR (l : List UInt8) (w w' : World) (e : Ending) : Prop where
  ex : ∃ (a : A) (At : Option Addr) (ct : Nat) (Ap : Option Addr) (cp : Nat) (ok : Bool), e = .returned (.tuple #[.agg #[.int .i64 a.d, .string ⟨a.k.toArray⟩, .slice At a.t.length ct, .int .i64 a.n, .slice Ap a.p.length cp], .int .i64 (if ok then 0 else 270)])
    ∧ Says l a ok ∧ (ok = false → a = ⟨0, [], [], 0, []⟩) ∧ Bs w' (.slice At a.t.length ct) (ints a.t) ∧ Bs w' (.slice Ap a.p.length cp) (ints a.p)
  kp : Kp (fun _ => False) w w'
/-- Which act the names up to j name. -/
structure NamesTo (x : List UInt8) (j d : Int) : Prop where
  any : ∀ i : Int, 1 ≤ i → i < j → nm i = x → d = i
  low : 0 ≤ d ∧ d ≤ 14
theorem NamesTo.start (x : List UInt8) : NamesTo x 1 0 := ⟨fun i h1 h2 => by omega, by omega⟩
theorem NamesTo.yes {x : List UInt8} {j d : Int} (h1 : 1 ≤ j) (h2 : j ≤ 14) (h : nm j = x) : NamesTo x (j + 1) j :=
  ⟨fun i hi hj hx => nm_inj h1 h2 hi (by omega) (h.trans hx.symm), by omega⟩
theorem NamesTo.no {x : List UInt8} {j d : Int} (h : NamesTo x j d) (hn : nm j ≠ x) : NamesTo x (j + 1) d :=
  ⟨fun i hi hj hx => by
    rcases Int.lt_or_le i j with h2 | h2
    · exact h.any i hi h2 hx
    · have : i = j := by omega
      subst this
      exact absurd hx hn, h.low⟩
theorem NamesTo.done {x : List UInt8} {j d : Int} (h : NamesTo x j d) (hj : 14 < j) : Names x d := ⟨fun i h1 h2 hx => h.any i h1 (by omega) hx, h.low⟩
end Go.Proofs.YtkcechpaeilaeaaGreatDoor
