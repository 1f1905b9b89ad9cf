/- What an argument that is a script reads as; the bridge to a row with a condition on what it reads. -/
import Derived.Test.YtkcechpaeilaeaaGreatDoorX0
import Derived.Test.YtkcechpaeilaeaaGreatDoorP19
import Derived.JoinedCond
namespace Go.Proofs.YtkcechpaeilaeaaGreatDoor
open Go.ChangeShapes Go.WideShapes Go.ChangeAt Go.RowKit Go.Deep
set_option linter.unusedVariables false
set_option linter.unusedSimpArgs false
instance : Inhabited Fo := ⟨⟨0, 0, 0⟩⟩
instance : Inhabited A := ⟨⟨0, [], [], 0, []⟩⟩
section
variable {H : Type} {enc : TypeId × Value → H} {w : World} {base : Nat} {spare : Nat → Bool} {held : Bool}
theorem i32_wf {n : Int} (h : (Lit.int .i32 n).wf = true) : -2147483648 ≤ n ∧ n ≤ 2147483647 := by
  simp only [Lit.wf, Bool.and_eq_true, decide_eq_true_eq] at h
  have h1 : IntKind.i32.min = -2147483648 := by decide
  have h2 : IntKind.i32.max = 2147483647 := by decide
  rw [h1, h2] at h
  omega
theorem open_i32_cell {fuel : Nat} {cs : List Value} {x : DataW H × List MemPlace} (h : DataW.trod enc Tryz.prog w base spare held fuel 21 cs = some x) : ∃ n, cs = [.int .i32 n] ∧ (-2147483648 ≤ n ∧ n ≤ 2147483647) := by
  obtain ⟨n, rfl, _, hw⟩ := DataW.trod_int Tryz.underlying21 h
  exact ⟨n, rfl, i32_wf hw⟩
set_option maxRecDepth 100000 in
theorem open_fold {fuel : Nat} {cs : List Value} {x : DataW H × List MemPlace} (h : DataW.trod enc Tryz.prog w base spare held fuel 100 cs = some x) :
    ∃ f : Fo, cs = [.int .i32 f.f, .int .i32 f.t, .int .i64 f.n] ∧ (-2147483648 ≤ f.f ∧ f.f ≤ 2147483647) ∧ (-2147483648 ≤ f.t ∧ f.t ≤ 2147483647) := by
  obtain ⟨xs, n, _, _, hcl, hxl, hf⟩ := DataW.trod_struct Tryz.underlying100 h
  have hc3 : cs.length = 3 := by rw [hcl]; kernel_rfl
  match cs, hc3 with
  | [c0, c1, c2], _ =>
    have hx3 : xs.length = 3 := hxl
    have g0 := hf 0 _ rfl
    have g1 := hf 1 _ rfl
    have g2 := hf 2 _ rfl
    rw [List.getElem?_eq_getElem (by omega)] at g0 g1 g2
    have p3 : Tryz.prog.cellsOf 3 = 1 := by kernel_rfl
    have p21 : Tryz.prog.cellsOf 21 = 1 := by kernel_rfl
    have q0 : DataW.trod enc Tryz.prog w base spare held n 21 (([c0, c1, c2].drop 0).take (Tryz.prog.cellsOf 21)) = some xs[0] := g0
    have q1 : DataW.trod enc Tryz.prog w base spare held n 21 (([c0, c1, c2].drop 1).take (Tryz.prog.cellsOf 21)) = some xs[1] := g1
    have q2 : DataW.trod enc Tryz.prog w base spare held n 3 (([c0, c1, c2].drop 2).take (Tryz.prog.cellsOf 3)) = some xs[2] := g2
    rw [p21] at q0 q1
    rw [p3] at q2
    clear g0 g1 g2
    have g0 : DataW.trod enc Tryz.prog w base spare held n 21 [c0] = some xs[0] := q0
    have g1 : DataW.trod enc Tryz.prog w base spare held n 21 [c1] = some xs[1] := q1
    have g2 : DataW.trod enc Tryz.prog w base spare held n 3 [c2] = some xs[2] := q2
    obtain ⟨a0, e0, r0⟩ := open_i32_cell g0
    obtain ⟨a1, e1, r1⟩ := open_i32_cell g1
    obtain ⟨a2, e2⟩ := open_int_cell g2
    injection e0 with e0
    injection e1 with e1
    injection e2 with e2
    subst e0 e1 e2
    exact ⟨⟨a0, a1, a2⟩, rfl, r0, r1⟩
theorem range_map {α : Type} {f : Nat → α} {len i : Nat} {x : α} (h : ((List.range len).map f)[i]? = some x) : i < len ∧ f i = x := by
  have hi : i < len := by
    have := (List.getElem?_eq_some_iff.1 h).1
    simpa using this
  rw [List.getElem?_map, List.getElem?_range hi] at h
  injection h with h
  exact ⟨hi, h⟩
theorem open_folds {fuel : Nat} {cs : List Value} {x : DataW H × List MemPlace} (h : DataW.trod enc Tryz.prog w base spare held fuel 47 cs = some x) :
    ∃ X c l, cs = [.slice X l.length c] ∧ Fr w (.slice X l.length c) l ∧ ∀ f ∈ l, (-2147483648 ≤ f.f ∧ f.f ≤ 2147483647) ∧ (-2147483648 ≤ f.t ∧ f.t ≤ 2147483647) := by
  rcases open_slice Tryz.underlying47 h with ⟨rfl, _⟩ | ⟨a, len, cap, m, n, D, Pl, rfl, _, hl, hm, hmm, _, hx⟩
  · exact ⟨none, 0, [], rfl, ⟨none, 0, rfl, .inl rfl⟩, fun x hx => by simp at hx⟩
  · have hlm : len ≤ m := by rw [hmm]; split <;> omega
    have p100 : Tryz.prog.cellsOf 100 = 3 := by kernel_rfl
    rw [p100] at hx
    obtain ⟨f, hf⟩ := choose_lt (n := len) (p := fun i (o : Fo) => (∀ j u, [Value.int .i32 o.f, .int .i32 o.t, .int .i64 o.n][j]? = some u → w.cell? ((a.add (i * 3)).add j) = some u) ∧ (-2147483648 ≤ o.f ∧ o.f ≤ 2147483647) ∧ (-2147483648 ≤ o.t ∧ o.t ≤ 2147483647)) (fun i hi => by
      obtain ⟨cs', h1, h2⟩ := hx i (by omega)
      obtain ⟨o, rfl, h3⟩ := open_fold h2
      obtain ⟨_, _, hcell⟩ := World.cells?_some h1
      refine ⟨o, fun j u hu => ?_, h3⟩
      have hj : j < 3 := by have := (List.getElem?_eq_some_iff.1 hu).1; simpa using this
      rw [hcell j hj]
      exact hu)
    have hll : ((List.range len).map f).length = len := by simp
    refine ⟨some a, cap, (List.range len).map f, by rw [hll], ⟨some a, cap, rfl, ?_⟩, fun x hx => ?_⟩
    case refine_2 =>
      obtain ⟨i, hi, rfl⟩ := List.mem_map.1 hx
      exact (hf i (List.mem_range.1 hi)).2
    by_cases h0 : len = 0
    · left; subst h0; rfl
    · right
      have hap := addr_plain ((hf 0 (by omega)).1 0 _ rfl)
      have e00 : (a.add (0 * 3)).add 0 = a := by simp [Addr.add]
      rw [e00] at hap
      refine ⟨a.block, a.off, congrArg some hap, fun j u hu => ?_⟩
      have hj : j < len * 3 := by
        have := (List.getElem?_eq_some_iff.1 hu).1
        rw [fcl_len, hll] at this
        exact this
      have hi : j / 3 < len := by omega
      obtain ⟨h1, h2, h3⟩ := fcl_get ((List.range len).map f) (j / 3) (f (j / 3)) (by rw [List.getElem?_map, List.getElem?_range hi]; rfl)
      have hc := (hf (j / 3) hi).1
      have key : ∀ r, j = j / 3 * 3 + r → [Value.int .i32 (f (j / 3)).f, .int .i32 (f (j / 3)).t, .int .i64 (f (j / 3)).n][r]? = some u → w.cell? ⟨a.block, a.off + j, none⟩ = some u := fun r hr hu' => by
        have := hc r u hu'
        rw [hap, add_none, add_none] at this
        rw [hr, ← Nat.add_assoc]
        exact this
      have h6 : j % 3 = 0 ∨ j % 3 = 1 ∨ j % 3 = 2 := by omega
      rcases h6 with h6 | h6 | h6
      · have e : j = j / 3 * 3 := by omega
        rw [← e] at h1
        exact key 0 (by omega) (congrArg some (Option.some.inj (hu.symm.trans h1)).symm)
      · have e : j = j / 3 * 3 + 1 := by omega
        rw [← e] at h2
        exact key 1 (by omega) (congrArg some (Option.some.inj (hu.symm.trans h2)).symm)
      · have e : j = j / 3 * 3 + 2 := by omega
        rw [← e] at h3
        exact key 2 (by omega) (congrArg some (Option.some.inj (hu.symm.trans h3)).symm)
theorem bulk_mem {d : DataW H} : ∀ {ds : List (DataW H)}, d ∈ ds → Rows.uptoBulk d ≤ Rows.uptoBulkAll ds
  | x :: r, h => by
    rw [Rows.uptoBulkAll]
    rcases List.mem_cons.1 h with rfl | h
    · omega
    · have := bulk_mem h
      omega
theorem open_words {fuel : Nat} {cs : List Value} {x : DataW H × List MemPlace} (h : DataW.trod enc Tryz.prog w base spare held fuel 48 cs = some x) :
    ∃ X c l, cs = [.slice X l.length c] ∧ Wos w (.slice X l.length c) l ∧ ∀ s ∈ l, s.length ≤ Rows.uptoBulk x.1 := by
  rcases open_slice Tryz.underlying48 h with ⟨rfl, _⟩ | ⟨a, len, cap, m, n, D, Pl, rfl, _, hl, hm, hmm, hxx, hx⟩
  · exact ⟨none, 0, [], rfl, ⟨none, 0, rfl, .inl rfl⟩, fun x hx => by simp at hx⟩
  · have hlm : len ≤ m := by rw [hmm]; split <;> omega
    have p9 : Tryz.prog.cellsOf 9 = 1 := by kernel_rfl
    rw [p9] at hx
    obtain ⟨f, hf⟩ := choose_lt (n := len) (p := fun i (o : List UInt8) => w.cell? (a.add (i * 1)) = some (.string ⟨o.toArray⟩) ∧ D i = .lit (.string o)) (fun i hi => by
      obtain ⟨cs', h1, h2⟩ := hx i (by omega)
      obtain ⟨s, rfl, e, _⟩ := DataW.trod_string Tryz.underlying9 h2
      obtain ⟨_, _, hcell⟩ := World.cells?_some h1
      refine ⟨s.data.toList, ?_, congrArg Prod.fst e⟩
      have := hcell 0 (by omega)
      rw [show (a.add (i * 1)).add 0 = a.add (i * 1) by simp [Addr.add]] at this
      rw [this]
      simp)
    have hll : ((List.range len).map f).length = len := by simp
    refine ⟨some a, cap, (List.range len).map f, by rw [hll], ⟨some a, cap, rfl, ?_⟩, fun s hs => ?_⟩
    case refine_2 =>
      obtain ⟨i, hi, rfl⟩ := List.mem_map.1 hs
      have hd := (hf i (List.mem_range.1 hi)).2
      rw [hxx]
      have h1 := bulk_mem (d := D i) (ds := (List.range len).map D) (List.mem_map.2 ⟨i, hi, rfl⟩)
      rw [hd] at h1
      simp only [Rows.uptoBulk] at h1 ⊢
      omega
    by_cases h0 : len = 0
    · left; subst h0; rfl
    · right
      have hap := addr_plain (hf 0 (by omega)).1
      have e00 : a.add (0 * 1) = a := by simp [Addr.add]
      rw [e00] at hap
      refine ⟨a.block, a.off, congrArg some hap, fun j u hu => ?_⟩
      unfold wcl at hu
      rw [List.map_map] at hu
      obtain ⟨hj, rfl⟩ := range_map hu
      have := (hf j hj).1
      rw [hap, add_none, Nat.mul_one] at this
      exact this
theorem open_acts {fuel : Nat} {cs : List Value} {x : DataW H × List MemPlace} (h : DataW.trod enc Tryz.prog w base spare held fuel 51 cs = some x) :
    ∃ X c l, cs = [.slice X l.length c] ∧ Ar w (.slice X l.length c) l := by
  rcases open_slice Tryz.underlying51 h with ⟨rfl, _⟩ | ⟨a, len, cap, m, n, D, Pl, rfl, _, hl, hm, hmm, _, hx⟩
  · exact ⟨none, 0, [], rfl, ⟨none, 0, rfl, .inl rfl⟩⟩
  · have hlm : len ≤ m := by rw [hmm]; split <;> omega
    have p24 : Tryz.prog.cellsOf 24 = 5 := by kernel_rfl
    rw [p24] at hx
    obtain ⟨f, hf⟩ := choose_lt (n := len) (p := fun i (o : A) => ∃ At ct Ap cp, (∀ j u, [Value.int .i64 o.d, .string ⟨o.k.toArray⟩, .slice At o.t.length ct, .int .i64 o.n, .slice Ap o.p.length cp][j]? = some u → w.cell? ((a.add (i * 5)).add j) = some u) ∧ Bs w (.slice At o.t.length ct) (ints o.t) ∧ Bs w (.slice Ap o.p.length cp) (ints o.p)) (fun i hi => by
      obtain ⟨cs', h1, h2⟩ := hx i (by omega)
      obtain ⟨o, At, ct, Ap, cp, rfl, h3, h4⟩ := open_act h2
      obtain ⟨_, _, hcell⟩ := World.cells?_some h1
      refine ⟨o, At, ct, Ap, cp, fun j u hu => ?_, h3, h4⟩
      have hj : j < 5 := by have := (List.getElem?_eq_some_iff.1 hu).1; simpa using this
      rw [hcell j hj]
      exact hu)
    have hll : ((List.range len).map f).length = len := by simp
    refine ⟨some a, cap, (List.range len).map f, by rw [hll], ⟨some a, cap, rfl, ?_⟩⟩
    by_cases h0 : len = 0
    · left; subst h0; rfl
    · right
      obtain ⟨_, _, _, _, hc0, _⟩ := hf 0 (by omega)
      have hap := addr_plain (hc0 0 _ rfl)
      have e00 : (a.add (0 * 5)).add 0 = a := by simp [Addr.add]
      rw [e00] at hap
      refine ⟨a.block, a.off, congrArg some hap, fun i o ho => ?_⟩
      obtain ⟨hi, rfl⟩ := range_map ho
      obtain ⟨At, ct, Ap, cp, hc, h3, h4⟩ := hf i hi
      refine ⟨At, ct, Ap, cp, fun j u hu => ?_, h3, h4⟩
      have := hc j u hu
      rw [hap, add_none, add_none] at this
      exact this
set_option maxRecDepth 100000 in
theorem open_conf {fuel : Nat} {cs : List Value} {x : DataW H × List MemPlace} (h : DataW.trod enc Tryz.prog w base spare held fuel 50 cs = some x) :
    ∃ (X Y : Option Addr) (cX cY : Nat) (fl : List Fo) (ss : List (List UInt8)) (cap : Int), cs = [.slice X fl.length cX, .slice Y ss.length cY, .int .i64 cap] ∧ Fr w (.slice X fl.length cX) fl ∧ Wos w (.slice Y ss.length cY) ss ∧ (∀ f ∈ fl, (-2147483648 ≤ f.f ∧ f.f ≤ 2147483647) ∧ (-2147483648 ≤ f.t ∧ f.t ≤ 2147483647)) ∧ ∀ s ∈ ss, s.length ≤ Rows.uptoBulk x.1 := by
  obtain ⟨xs, n, _, hx, hcl, hxl, hf⟩ := DataW.trod_struct Tryz.underlying50 h
  have hc3 : cs.length = 3 := by rw [hcl]; kernel_rfl
  match cs, hc3 with
  | [c0, c1, c2], _ =>
    have hx3 : xs.length = 3 := hxl
    have g0 := hf 0 _ rfl
    have g1 := hf 1 _ rfl
    have g2 := hf 2 _ rfl
    rw [List.getElem?_eq_getElem (by omega)] at g0 g1 g2
    have p3 : Tryz.prog.cellsOf 3 = 1 := by kernel_rfl
    have p47 : Tryz.prog.cellsOf 47 = 1 := by kernel_rfl
    have p48 : Tryz.prog.cellsOf 48 = 1 := by kernel_rfl
    have q0 : DataW.trod enc Tryz.prog w base spare held n 47 (([c0, c1, c2].drop 0).take (Tryz.prog.cellsOf 47)) = some xs[0] := g0
    have q1 : DataW.trod enc Tryz.prog w base spare held n 48 (([c0, c1, c2].drop 1).take (Tryz.prog.cellsOf 48)) = some xs[1] := g1
    have q2 : DataW.trod enc Tryz.prog w base spare held n 3 (([c0, c1, c2].drop 2).take (Tryz.prog.cellsOf 3)) = some xs[2] := g2
    rw [p47] at q0
    rw [p48] at q1
    rw [p3] at q2
    clear g0 g1 g2
    have g0 : DataW.trod enc Tryz.prog w base spare held n 47 [c0] = some xs[0] := q0
    have g1 : DataW.trod enc Tryz.prog w base spare held n 48 [c1] = some xs[1] := q1
    have g2 : DataW.trod enc Tryz.prog w base spare held n 3 [c2] = some xs[2] := q2
    obtain ⟨X, cX, fl, e0, h0, w0⟩ := open_folds g0
    obtain ⟨Y, cY, ss, e1, h1, w1⟩ := open_words g1
    obtain ⟨a2, e2⟩ := open_int_cell g2
    injection e0 with e0
    injection e1 with e1
    injection e2 with e2
    subst e0 e1 e2
    refine ⟨X, Y, cX, cY, fl, ss, a2, rfl, h0, h1, w0, fun s hs => ?_⟩
    have h3 := w1 s hs
    have h4 := bulk_mem (d := xs[1].1) (ds := xs.map (·.1)) (List.mem_map.2 ⟨xs[1], List.getElem_mem _, rfl⟩)
    rw [hx]
    simp only [Rows.uptoBulk]
    omega
set_option maxRecDepth 100000 in
theorem open_script {fuel : Nat} {cs : List Value} {x : DataW H × List MemPlace} (h : DataW.trod enc Tryz.prog w base spare held fuel 53 cs = some x) :
    ∃ (s : Sc) (X Y Z : Option Addr) (cX cY cZ : Nat), cs = [.int .i64 s.pages, .int .i64 s.cache, .slice X s.fl.length cX, .slice Y s.ss.length cY, .int .i64 s.cap, .slice Z s.ac.length cZ] ∧ ScR w s X cX Y cY Z cZ ∧ (∀ f ∈ s.fl, (-2147483648 ≤ f.f ∧ f.f ≤ 2147483647) ∧ (-2147483648 ≤ f.t ∧ f.t ≤ 2147483647)) ∧ ∀ l ∈ s.ss, l.length ≤ Rows.uptoBulk x.1 := by
  obtain ⟨xs, n, _, hx, hcl, hxl, hf⟩ := DataW.trod_struct Tryz.underlying53 h
  have hc6 : cs.length = 6 := by rw [hcl]; kernel_rfl
  match cs, hc6 with
  | [c0, c1, c2, c3, c4, c5], _ =>
    have hx4 : xs.length = 4 := hxl
    have g0 := hf 0 _ rfl
    have g1 := hf 1 _ rfl
    have g2 := hf 2 _ rfl
    have g3 := hf 3 _ rfl
    rw [List.getElem?_eq_getElem (by omega)] at g0 g1 g2 g3
    have p3 : Tryz.prog.cellsOf 3 = 1 := by kernel_rfl
    have p50 : Tryz.prog.cellsOf 50 = 3 := by kernel_rfl
    have p51 : Tryz.prog.cellsOf 51 = 1 := by kernel_rfl
    have q0 : DataW.trod enc Tryz.prog w base spare held n 3 (([c0, c1, c2, c3, c4, c5].drop 0).take (Tryz.prog.cellsOf 3)) = some xs[0] := g0
    have q1 : DataW.trod enc Tryz.prog w base spare held n 3 (([c0, c1, c2, c3, c4, c5].drop 1).take (Tryz.prog.cellsOf 3)) = some xs[1] := g1
    have q2 : DataW.trod enc Tryz.prog w base spare held n 50 (([c0, c1, c2, c3, c4, c5].drop 2).take (Tryz.prog.cellsOf 50)) = some xs[2] := g2
    have q3 : DataW.trod enc Tryz.prog w base spare held n 51 (([c0, c1, c2, c3, c4, c5].drop 5).take (Tryz.prog.cellsOf 51)) = some xs[3] := g3
    rw [p3] at q0 q1
    rw [p50] at q2
    rw [p51] at q3
    clear g0 g1 g2 g3
    have g0 : DataW.trod enc Tryz.prog w base spare held n 3 [c0] = some xs[0] := q0
    have g1 : DataW.trod enc Tryz.prog w base spare held n 3 [c1] = some xs[1] := q1
    have g2 : DataW.trod enc Tryz.prog w base spare held n 50 [c2, c3, c4] = some xs[2] := q2
    have g3 : DataW.trod enc Tryz.prog w base spare held n 51 [c5] = some xs[3] := q3
    obtain ⟨a0, e0⟩ := open_int_cell g0
    obtain ⟨a1, e1⟩ := open_int_cell g1
    obtain ⟨X, Y, cX, cY, fl, ss, cap, e2, h1, h2, w1, w2⟩ := open_conf g2
    obtain ⟨Z, cZ, ac, e3, h3⟩ := open_acts g3
    injection e0 with e0
    injection e1 with e1
    injection e2 with e20 e2
    injection e2 with e21 e2
    injection e2 with e22 e2
    injection e3 with e3
    subst e0 e1 e20 e21 e22 e3
    refine ⟨⟨a0, a1, fl, ss, cap, ac⟩, X, Y, Z, cX, cY, cZ, rfl, ⟨h1, h2, h3⟩, w1, fun s hs => ?_⟩
    have h4 := w2 s hs
    have h5 := bulk_mem (d := xs[2].1) (ds := xs.map (·.1)) (List.mem_map.2 ⟨xs[2], List.getElem_mem _, rfl⟩)
    rw [hx]
    simp only [Rows.uptoBulk]
    omega
end
/-- As returns_shaped, for a row with a condition on what it reads. -/
theorem returns_shaped_cond {H : Type} {enc : TypeId × Value → H} {a : Assume} {C : Checked} {os : _root_.Go.Os} {f : FuncId} {fn : Func} {s : OpenSpec} {k : (H : Type) → List (DataW H) → Bool} (hk : s.cond = some k) {F : Stop.Interp} {conds : List PathCond} {apart fresh handsOn again : Bool} {X : World → Array Value → Prop}
    (hX : ∀ (w w' : World) (args : Array Value), w.heap = w'.heap → X w args → X w' args)
    (own : ownKnob C.prog.godebug = none) (started : os.Started) (noInit : C.prog.inits.idxOf? f = none) (hfn : C.prog.funcs[f]? = some fn)
    (witness : ∃ (w : World) (tape : Tape) (i : Input), w.os = os ∧ (w.forCall tape i).Shaped C.prog ∧ i.vars = [] ∧ Input.okWide C.prog (w.forCall tape i) .any w.heap.size f i ∧
      ((s.pre enc C.prog fn conds apart (w.forCall tape i).memory i.args ∧ X (w.forCall tape i).memory i.args) ∧ sizedMet enc C.prog fn s apart (w.forCall tape i).memory i.args) ∧ a.holds C.prog (lone (Frame.enter C.prog f i.args .normal) [] (w.forCall tape i)))
    (contract : ∀ (W : World) (base : Nat) (args : Array Value) (ds gs : List (DataW H)) (before : List MemPlace),
      (∀ (j : Nat) t v, fn.params[j]? = some t → args[j]? = some v → Value.okWide C.prog W .any base t v) →
      DataW.Whole enc C.prog fn.params.toList s.vars apart W args.toList ds gs before → k H (ds ++ gs) = true → X W args → W.ShapedOpen C.prog →
      Calls C.prog f args W fun e W' => ∃ v, e = .returned v ∧ (s.at F).post enc C.prog fn apart fresh handsOn again W args v W') :
    ReturnsInHanded a C os f .any (fun w args => (s.pre enc C.prog fn conds apart w args ∧ X w args) ∧ sizedMet enc C.prog fn s apart w args) ((s.at F).post enc C.prog fn apart fresh handsOn again) := by
  refine returnsInHanded_of_calls own started noInit witness ?_
  intro w tape i _ hsh _ hok hpre hholds
  obtain ⟨_, _, _, fn', hfn', _, _, _, _, hval⟩ := hok
  have e : fn' = fn := Option.some.inj (hfn'.symm.trans hfn)
  subst e
  obtain ⟨⟨hp0, hx⟩, hz⟩ := hpre
  obtain ⟨ds, gs, before, hw, hc, hkk⟩ := (OpenSpec.pre_some hk conds apart _ _).1 hp0
  have hw' := DataW.Whole.of_heap (w' := w.forCall tape i) (by rfl) hw
  refine (contract (w.forCall tape i) w.heap.size i.args ds gs before hval hw' hkk (hX _ _ _ (by rfl) hx) hsh).mono fun e W' ⟨v, he, hp⟩ => ?_
  subst he
  exact ChangeSpec.post_blind hp
theorem witness_shaped_cond {H : Type} {enc : TypeId × Value → H} {C : Checked} {os : _root_.Go.Os} {f : FuncId} {fn : Func} {s : OpenSpec} {k : (H : Type) → List (DataW H) → Bool} (hk : s.cond = some k) {conds : List PathCond} {apart : Bool} {X : World → Array Value → Prop} (modest : Bool) (w0 : World) (args : Array Value) (fuel : Nat) (hos : w0.os = os)
    (hsh : (w0.forCall (fun _ _ => 0) ⟨#[], args, []⟩).Shaped C.prog)
    (hok : Input.okWideB C.prog (w0.forCall (fun _ _ => 0) ⟨#[], args, []⟩) f ⟨#[], args, []⟩ = true)
    {x : List (DataW H) × List (DataW H) × List MemPlace} (hxx : DataW.whole enc C.prog (w0.forCall (fun _ _ => 0) ⟨#[], args, []⟩).memory fn.params.toList s.vars apart args.toList fuel = some x)
    (hconds : conds.all (PathCond.test C.prog ⟨fn.params.toList, x.1, s.bare.plain.varTypes C.prog, x.2.1⟩) = true) (hkk : k H (x.1 ++ x.2.1) = true)
    (hsz : s.bare.sizedB enc C.prog fn apart (w0.forCall (fun _ _ => 0) ⟨#[], args, []⟩).memory args fuel = true)
    (hx : X (w0.forCall (fun _ _ => 0) ⟨#[], args, []⟩).memory args) :
    ∃ (w : World) (tape : Tape) (i : Input), w.os = os ∧ (w.forCall tape i).Shaped C.prog ∧ i.vars = [] ∧ Input.okWide C.prog (w.forCall tape i) .any w.heap.size f i ∧
      ((s.pre enc C.prog fn conds apart (w.forCall tape i).memory i.args ∧ X (w.forCall tape i).memory i.args) ∧ sizedMet enc C.prog fn s apart (w.forCall tape i).memory i.args) ∧ ({ modest := modest } : Assume).holds C.prog (lone (Frame.enter C.prog f i.args .normal) [] (w.forCall tape i)) :=
  ⟨w0, fun _ _ => 0, ⟨#[], args, []⟩, hos, hsh, (Input.okWide_of_okWideB (base := 0) hok).1, (Input.okWide_of_okWideB hok).2, ⟨⟨(OpenSpec.pre_some hk conds apart _ _).2 ⟨x.1, x.2.1, x.2.2, DataW.Whole_of_whole hxx, hconds, hkk⟩, hx⟩, sizedMet_of_sizedB hsz⟩, by
    simp only [Assume.holds]
    exact ⟨by simp, by simp, fun _ => Modest.zero, by simp, by simp⟩⟩
end Go.Proofs.YtkcechpaeilaeaaGreatDoor
