/- The row of ScriptPrints where what it reads is of bulk at most 1048576, and its tied card. -/
import Derived.Test.YtkcechpaeilaeaaGreatDoorRows
import Derived.Test.YtkcechpaeilaeaaGreatDoorTie
import Derived.Test.YtkcechpaeilaeaaGreatDoorCards
import Derived.Test.YtkcechpaeilaeaaGreatDoorO2
import Derived.Test.YtkcechpaeilaeaaGreatDoorP32
import Derived.SevenTiedAt
namespace Go.Proofs.YtkcechpaeilaeaaGreatDoor.scriptPrintsUpto
open Go.ChangeShapes Go.WideShapes Go.ChangeAt Go.RowKit
open Go.ChangeMaps (open_string shut_string)
set_option linter.unusedVariables false
abbrev sc0 : Value := .agg #[.int .i64 0, .int .i64 0, .slice none 0 0, .slice none 0 0, .int .i64 0, .slice none 0 0]
abbrev dc0 (H : Type) : DataW H := .agg [.lit (.int .i64 0), .lit (.int .i64 0), .agg [.nil, .nil, .lit (.int .i64 0)], .nil]
theorem agg6 {v : Value} {a b c d e f : Value} (h : v.cells.toList = [a, b, c, d, e, f]) : v = .agg #[a, b, c, d, e, f] := by
  cases v <;> simp [Value.cells] at h
  rename_i xs
  congr 1
  apply Array.ext'
  simpa using h
set_option maxRecDepth 100000 in
theorem lifted (os : _root_.Go.Os) (started : os.Started) (H : Type) (enc : TypeId × Value → H) (F : Stop.Interp) :
    ReturnsInHanded {} Tryz.checked os 5 .any (fun w args => ((Rows.OpenSpec.upto Rows.scriptPrintsSpec).pre enc Tryz.prog Tryz.f5 [] false w args ∧ laidMetH Tryz.prog lays w) ∧ sizedMet enc Tryz.prog Tryz.f5 (Rows.OpenSpec.upto Rows.scriptPrintsSpec) false w args)
      (((Rows.OpenSpec.upto Rows.scriptPrintsSpec).at F).post enc Tryz.prog Tryz.f5 false true false false) := by
  refine returns_shaped_cond (k := Rows.uptoSmall) rfl (C := Tryz.checked) (X := fun w _ => laidMetH Tryz.prog lays w) (fun _ _ _ hh h => h.of_heap hh) own started (by kernel_rfl) Tryz.func5
    (witness_shaped_cond (k := Rows.uptoSmall) rfl (enc := enc) (C := Tryz.checked) (os := os) (X := fun w _ => laidMetH Tryz.prog lays w) false (World.laidAll Tryz.prog os lays) #[sc0, sc0] 8 (World.laidAll_os _ _ _)
      (lays_shaped _ _) (by kernel_rfl) (x := ([dc0 H, dc0 H], [], [])) (by kernel_rfl) (by kernel_rfl) (by kernel_rfl) (by kernel_rfl) (lays_met _ _)) ?_
  intro W base args ds gs before hval0 hW hkk hL hsh
  have hval : ∀ (j : Nat) t v, Tryz.f5.params[j]? = some t → args[j]? = some v → Value.okWide Tryz.prog W .any base t v := hval0
  have hW' := hW
  obtain ⟨p, q, hA0, hV, rfl, hfz, hnd⟩ := hW
  have hA : DataW.TrodAll enc Tryz.prog W 0 (fun _ => true) true Tryz.f5.params.toList args.toList ds p := hA0
  rw [Tryz.params5] at hA hval
  obtain ⟨v0, vs0, d0, ds0, p0, q0, hargs, rfl, rfl, h0, r0⟩ := trodAll_cons hA
  obtain ⟨v1, vs1, d1, ds1, p1, q1, rfl, rfl, rfl, h1, r1⟩ := trodAll_cons r0
  obtain ⟨rfl, rfl, rfl⟩ := trodAll_nil r1
  obtain rfl : args = #[v0, v1] := by cases args; simp_all
  obtain ⟨rfl, rfl⟩ := trodVars_none hV
  have k0 := h0
  have k1 := h1
  have lt0 : ∀ x ∈ p0, x.block < W.heap.size := by obtain ⟨m, hm⟩ := k0; exact DataW.trod_lt m _ _ _ hm
  have lt1 : ∀ x ∈ p1, x.block < W.heap.size := by obtain ⟨m, hm⟩ := k1; exact DataW.trod_lt m _ _ _ hm
  have hbulk : Rows.uptoBulk d0 + (Rows.uptoBulk d1 + 0) ≤ 1048576 := by
    have := of_decide_eq_true hkk
    simpa [Rows.uptoBulkAll] using this
  obtain ⟨x, F1, S1, A1, cF1, cS1, cA1, hv0, hX, wx⟩ : ∃ (x : Sc) (F1 S1 A1 : Option Addr) (cF1 cS1 cA1 : Nat), v0 = .agg #[.int .i64 x.pages, .int .i64 x.cache, .slice F1 x.fl.length cF1, .slice S1 x.ss.length cS1, .int .i64 x.cap, .slice A1 x.ac.length cA1] ∧ ScR W x F1 cF1 S1 cS1 A1 cA1 ∧ x.wf := by
    obtain ⟨fuel, hf⟩ := h0
    obtain ⟨x, F1, S1, A1, cF1, cS1, cA1, hv, hX, h5, h6⟩ := open_script hf
    exact ⟨x, F1, S1, A1, cF1, cS1, cA1, agg6 hv, hX, h5, fun l hl => by have := h6 l hl; simp only at this; omega⟩
  obtain ⟨y, F2, S2, A2, cF2, cS2, cA2, hv1, hY, wy⟩ : ∃ (x : Sc) (F1 S1 A1 : Option Addr) (cF1 cS1 cA1 : Nat), v1 = .agg #[.int .i64 x.pages, .int .i64 x.cache, .slice F1 x.fl.length cF1, .slice S1 x.ss.length cS1, .int .i64 x.cap, .slice A1 x.ac.length cA1] ∧ ScR W x F1 cF1 S1 cS1 A1 cA1 ∧ x.wf := by
    obtain ⟨fuel, hf⟩ := h1
    obtain ⟨x, F1, S1, A1, cF1, cS1, cA1, hv, hX, h5, h6⟩ := open_script hf
    exact ⟨x, F1, S1, A1, cF1, cS1, cA1, agg6 hv, hX, h5, fun l hl => by have := h6 l hl; simp only at this; omega⟩
  have hE := ev_of_laid hL hsh
  subst hv0 hv1
  clear hA0 hval0
  refine (scriptprints_at hE x y wx wy hX hY).mono fun e W' ⟨he, hk⟩ => ?_
  subst he
  have bel := hk.below
  exact ⟨_, rfl, _, _, _, [], _, [], hW', trodAll_mk1 (shut_bool Tryz.underlying4 _), (trodAll_cons_mk (Below.trod laidOut (by kernel_rfl) (of_decide_eq_true (by kernel_rfl)) k0 bel lt0) (trodAll_cons_mk (Below.trod laidOut (by kernel_rfl) (of_decide_eq_true (by kernel_rfl)) k1 bel lt1) trodAll_mk0)), rfl, bel.frame _, fun h => by cases h⟩
theorem over : Rows.scriptPrintsUptoRow.holds Tryz.pinned (Rows.OpenSpec.upto Rows.scriptPrintsSpec) :=
  OpenClaim.holds_of_cond 5 Tryz.f5 rfl rfl rfl rfl rfl rfl rfl ⟨rfl, rfl, rfl, rfl, rfl⟩ rfl rfl rfl rfl rfl (by kernel_rfl) Tryz.func5 (by kernel_rfl)
    (of_decide_eq_true (by kernel_rfl)) (by unfold Func.isWrapper; first | (rw [if_pos (by decide +kernel)]; kernel_rfl) | (rw [if_neg (by decide +kernel)]; exact ⟨rfl, rfl⟩))
    (fun os started H enc _ F => lifted os started H enc F)
end Go.Proofs.YtkcechpaeilaeaaGreatDoor.scriptPrintsUpto
namespace Go.Proofs.YtkcechpaeilaeaaGreatDoor
/-- The tied card of ScriptPrints, in the second form. -/
theorem scriptPrintsUpto_holds : Rows.ScriptPrintsUptoCardSaid :=
  Claim7.holds_tied_plain_at .later [] [.data, .data, .data, .data, .sentinel, .sentinel, .pinned] true (true, "cbfb356cfe565f0983115bdee14c665041dc82f5d79457a76e7f7f8651d32420") true scriptPrintsUpto.over (fun _ h => by cases h) (by kernel_rfl) (fun _ h => by cases h) scriptPrintsUpto_row_tie rfl ⟨rfl, rfl⟩ (by kernel_rfl) rfl
    (fun f fn hf hfn => by
      obtain rfl : f = 5 := Option.some.inj ((show Tryz.prog.funcNamed "incipit/incipitlaw27.ScriptPrints" = some 5 by kernel_rfl).symm.trans hf) |>.symm
      obtain rfl : fn = Tryz.f5 := (Option.some.inj (Tryz.func5.symm.trans hfn)).symm
      exact ⟨by kernel_rfl, fun j t ht => by
        rw [Tryz.params5] at ht
        have hm : t ∈ [53, 53] := by simpa using Array.mem_of_getElem? ht
        have hall : ([53, 53].all fun u => !Tryz.prog.wantsStandIn u) = true := by kernel_rfl
        exact (show Tryz.prog.wantsStandIn t = false by simpa using List.all_eq_true.1 hall t hm)⟩)
    (by kernel_rfl)
#print axioms scriptPrintsUpto_holds
end Go.Proofs.YtkcechpaeilaeaaGreatDoor
