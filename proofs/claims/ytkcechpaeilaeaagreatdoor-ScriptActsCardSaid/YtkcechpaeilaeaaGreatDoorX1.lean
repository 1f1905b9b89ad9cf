/- The row of ScriptActs, and its tied card. -/
import Derived.Test.YtkcechpaeilaeaaGreatDoorRows
import Derived.Test.YtkcechpaeilaeaaGreatDoorTie
import Derived.Test.YtkcechpaeilaeaaGreatDoorCards
import Derived.Test.YtkcechpaeilaeaaGreatDoorX0
import Derived.Test.YtkcechpaeilaeaaGreatDoorV6
import Derived.SevenTiedAt
namespace Go.Proofs.YtkcechpaeilaeaaGreatDoor.scriptActs
open Go.ChangeShapes Go.WideShapes Go.ChangeAt Go.RowKit
open Go.ChangeMaps (open_string shut_string)
set_option linter.unusedVariables false
set_option maxRecDepth 100000 in
theorem lifted (os : _root_.Go.Os) (started : os.Started) (H : Type) (enc : TypeId × Value → H) :
    ReturnsInHanded {} Tryz.checked os 3 .any (fun w args => (Rows.scriptActsSpec.pre enc Tryz.prog Tryz.f3 [] false w args ∧ laidMetH Tryz.prog lays w) ∧ sizedMet enc Tryz.prog Tryz.f3 (OpenSpec.ofChange Rows.scriptActsSpec) false w args)
      (Rows.scriptActsSpec.post enc Tryz.prog Tryz.f3 false true false false) := by
  refine returns_shaped (C := Tryz.checked) (X := fun w _ => laidMetH Tryz.prog lays w) (fun _ _ _ hh h => h.of_heap hh) own started (by kernel_rfl) Tryz.func3
    (ChangeSpec.witness_shaped (enc := enc) (C := Tryz.checked) (os := os) (X := fun w _ => laidMetH Tryz.prog lays w) false (World.laidAll Tryz.prog os lays) #[.agg #[.int .i64 0, .string ⟨#[]⟩, .slice none 0 0, .int .i64 0, .slice none 0 0], .string ⟨#[]⟩] 8 (World.laidAll_os _ _ _)
      (lays_shaped _ _) (by kernel_rfl) (by kernel_rfl) (by kernel_rfl) (lays_met _ _)) ?_
  intro W base args ds gs before hval0 hW hL hsh
  have hval : ∀ (j : Nat) t v, Tryz.f3.params[j]? = some t → args[j]? = some v → Value.okWide Tryz.prog W .any base t v := hval0
  have hW' := hW
  obtain ⟨p, q, hA0, hV, rfl, hfz, hnd⟩ := hW
  have hA : DataW.TrodAll enc Tryz.prog W 0 (fun _ => true) true Tryz.f3.params.toList args.toList ds p := hA0
  rw [Tryz.params3] at hA hval
  obtain ⟨v0, vs0, d0, ds0, p0, q0, hargs, rfl, rfl, h0, r0⟩ := trodAll_cons hA
  obtain ⟨v1, vs1, d1, ds1, p1, q1, rfl, rfl, rfl, h1, r1⟩ := trodAll_cons r0
  obtain ⟨rfl, rfl, rfl⟩ := trodAll_nil r1
  obtain rfl : args = #[v0, v1] := by cases args; simp_all
  obtain ⟨rfl, rfl⟩ := trodVars_none hV
  have k0 := h0
  have k1 := h1
  have lt0 : ∀ x ∈ p0, x.block < W.heap.size := by obtain ⟨m, hm⟩ := k0; exact DataW.trod_lt m _ _ _ hm
  have lt1 : ∀ x ∈ p1, x.block < W.heap.size := by obtain ⟨m, hm⟩ := k1; exact DataW.trod_lt m _ _ _ hm
  obtain ⟨a, At, ct, Ap, cp, hv0, hT, hP⟩ : ∃ (a : A) (At : Option Addr) (ct : Nat) (Ap : Option Addr) (cp : Nat), v0 = .agg #[.int .i64 a.d, .string ⟨a.k.toArray⟩, .slice At a.t.length ct, .int .i64 a.n, .slice Ap a.p.length cp] ∧ Bs W (.slice At a.t.length ct) (ints a.t) ∧ Bs W (.slice Ap a.p.length cp) (ints a.p) := by
    obtain ⟨fuel, hf⟩ := h0
    obtain ⟨a, At, ct, Ap, cp, hv, hT, hP⟩ := open_act hf
    refine ⟨a, At, ct, Ap, cp, ?_, hT, hP⟩
    cases v0 <;> simp [Value.cells] at hv
    rw [← hv]
  obtain ⟨l, hv1⟩ : ∃ l : List UInt8, v1 = .string ⟨l.toArray⟩ := by
    obtain ⟨s, hs, _⟩ := open_string Tryz.underlying9 (hval 1 9 v1 rfl rfl) h1
    exact ⟨s.data.toList, by rw [hs]⟩
  have hE := ev_of_laid hL hsh
  subst hv0 hv1
  clear hA0 hval0
  refine (scriptacts_at a l hE At ct Ap cp hT hP).mono fun e W' ⟨he, hk⟩ => ?_
  subst he
  have bel := hk.below
  exact ⟨_, rfl, _, _, _, [], _, [], hW', trodAll_mk1 (shut_bool Tryz.underlying4 _), (trodAll_cons_mk (Below.trod laidOut (by kernel_rfl) (of_decide_eq_true (by kernel_rfl)) k0 bel lt0) (trodAll_cons_mk (Below.trod laidOut (by kernel_rfl) (of_decide_eq_true (by kernel_rfl)) k1 bel lt1) trodAll_mk0)), rfl, bel.frame _, fun h => by cases h⟩
theorem over : Rows.scriptActsRow.holds Tryz.pinned (OpenSpec.ofChange Rows.scriptActsSpec) :=
  OpenClaim.holds_of_wide 3 Tryz.f3 rfl rfl rfl rfl rfl rfl rfl ⟨rfl, rfl, rfl, rfl, rfl⟩ rfl rfl rfl rfl rfl (by kernel_rfl) Tryz.func3 (by kernel_rfl)
    (of_decide_eq_true (by kernel_rfl)) (by unfold Func.isWrapper; first | (rw [if_pos (by decide +kernel)]; kernel_rfl) | (rw [if_neg (by decide +kernel)]; exact ⟨rfl, rfl⟩))
    (fun os started H enc _ => lifted os started H enc)
end Go.Proofs.YtkcechpaeilaeaaGreatDoor.scriptActs
namespace Go.Proofs.YtkcechpaeilaeaaGreatDoor
/-- The tied card of ScriptActs. -/
theorem scriptActs_holds : Rows.ScriptActsCardSaid :=
  Claim7.holds_tied_plain_at .later [] [.data, .data, .data, .data, .sentinel, .sentinel, .pinned] true (true, "cbfb356cfe565f0983115bdee14c665041dc82f5d79457a76e7f7f8651d32420") true scriptActs.over (fun _ h => by cases h) (by kernel_rfl) (fun _ h => by cases h) scriptActs_row_tie rfl ⟨rfl, rfl⟩ (by kernel_rfl) rfl
    (fun f fn hf hfn => by
      obtain rfl : f = 3 := Option.some.inj ((show Tryz.prog.funcNamed "incipit/incipitlaw27.ScriptActs" = some 3 by kernel_rfl).symm.trans hf) |>.symm
      obtain rfl : fn = Tryz.f3 := (Option.some.inj (Tryz.func3.symm.trans hfn)).symm
      exact ⟨by kernel_rfl, fun j t ht => by
        rw [Tryz.params3] at ht
        have hm : t ∈ [24, 9] := by simpa using Array.mem_of_getElem? ht
        have hall : ([24, 9].all fun u => !Tryz.prog.wantsStandIn u) = true := by kernel_rfl
        exact (show Tryz.prog.wantsStandIn t = false by simpa using List.all_eq_true.1 hall t hm)⟩)
    (by kernel_rfl)
#print axioms scriptActs_holds
end Go.Proofs.YtkcechpaeilaeaaGreatDoor
