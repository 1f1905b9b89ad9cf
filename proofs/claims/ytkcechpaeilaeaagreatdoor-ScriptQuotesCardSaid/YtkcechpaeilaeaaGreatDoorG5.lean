/- A range over a function whose captured cell turns from round to round: the law. -/
import Derived.Test.YtkcechpaeilaeaaGreatDoorG4
import Derived.RangeFuncFrom
namespace Go.Proofs.YtkcechpaeilaeaaGreatDoor
open Go.RowKit
set_option linter.unusedVariables false
set_option linter.unusedSimpArgs false
set_option maxRecDepth 20000

/-- How a round's body may be left. -/
def bodyLeft {α : Type} (Bn : Nat) (I : List α → World → Prop) (Ix : Code → List α → World → Prop) (pre : List α) (x : α) (W : World) : Exit → Act → World → Prop
  | .normal, _, W' => (KeepsOthers W W' ∧ W'.heap[Bn]? = W.heap[Bn]?) ∧ I (pre ++ [x]) W'
  | .exit id, _, W' => (KeepsOthers W W' ∧ W'.heap[Bn]? = W.heap[Bn]?) ∧ Ix (.exit id) pre W'
  | _, _, _ => False
theorem range_at {α : Type} {P : Program} {g : Operand} {ps : Array Tmp} {assign body : Code} {Q : Exit → Act → World → Prop} {a : Act} {w : World} {gf : Nat} {lb : Array Value}
    (hg : a.eval g = .func (.func gf) #[] lb) (eg : ∀ args w, (callFunc gf args).run P w = .ok (.enter gf args) w) (encs : α → Array Value) (hps : ∀ x, (encs x).size = ps.size) (Bn : Nat) (hBn : Bn < w.heap.size)
    (I : List α → World → Prop) (Ix : Code → List α → World → Prop) (hI : OwnFrom w.heap.size I) (hIx : ∀ c, OwnFrom w.heap.size (Ix c)) (h0 : I [] w)
    (hId : ∀ pre W n, I pre W → I pre (W.drewN n)) (hIc : ∀ pre W v, I pre W → (∃ u, W.heap[Bn]? = some (.cells #[u] 9 (0, 0))) → I pre (W.setCell ⟨Bn, 0, none⟩ v)) (S Sp : List α → Prop) (a₁ : α → Act)
    (hiter : ∀ (l : Nat) (J Jx : List α → World → Prop) (W : World), (∀ pre W, J pre W → I pre W) → (∀ pre W n, J pre W → J pre (W.drewN n)) → (∀ pre W v, J pre W → (∃ u, W.heap[Bn]? = some (.cells #[u] 9 (0, 0))) → J pre (W.setCell ⟨Bn, 0, none⟩ v)) →
      (∀ pre x W, J pre W → YieldAt Fence.wide 0 P l (encs x) W fun e W' => ((e = .returned (.bool true) ∧ J (pre ++ [x]) W') ∨ (e = .returned (.bool false) ∧ Jx pre W')) ∧ W'.heap[Bn]? = W.heap[Bn]?) →
      W.heap[Bn]? = w.heap[Bn]? → J [] W → CallsIn Fence.wide 1 P gf (#[.func (.yield l) #[] #[]] ++ lb) W fun e W' => (∃ v, e = .returned v) ∧ ((∃ pre, S pre ∧ J pre W') ∨ (∃ pre, Sp pre ∧ Jx pre W')))
    (hassign : ∀ (l : Nat) (x : α) (W : World) (K : Act → World → Prop), K (a₁ x) W →
      assign.wpIn (Fence.wide.inRound l) 0 P (Exit.then K (fun _ _ _ => False)) { tmps := (ps.zip (encs x)).foldl (fun t (p, v) => t.setIfInBounds p v) a.tmps, defers := [] } W)
    (hbody : ∀ (l : Nat) (pre : List α) (x : α) (W : World), I pre W → body.wpIn (Fence.wide.inRound l) 0 P (bodyLeft Bn I Ix pre x W) (a₁ x) W)
    (hdone : ∀ (D : Nat) (xs : List α) (W : World), w.heap.size ≤ D → S xs → I xs W → W.heap[D]? = some (.deferred (some [])) → Q .normal { a with defers := { target := .collected D, args := #[] } :: a.defers } W)
    (hstop : ∀ (D : Nat) (c : Code) (pre : List α) (W : World), w.heap.size ≤ D → Sp pre → Ix c pre W → W.heap[D]? = some (.deferred (some [])) → c.wpIn Fence.wide 2 P Q { a with defers := { target := .collected D, args := #[] } :: a.defers } W) :
    (Code.rangeFunc g ps assign body).wpIn Fence.wide 2 P Q a w := by
  refine wpIn_rangeFunc ?_
  intro fn hfn
  obtain ⟨D, hD⟩ : ∃ D, w.heap.size = D := ⟨_, rfl⟩
  obtain ⟨rc, hrc⟩ : ∃ rc : LoopState → Option Code → Loop, rc = fun st pe => { state := st, pending := pe, fn, tmps := a.tmps, params := ps, assign, body, defers := D } := ⟨_, rfl⟩
  have e1 : ∀ st pe, (rc st pe).state = st := fun st pe => by rw [hrc]
  have e2 : ∀ st pe, (rc st pe).pending = pe := fun st pe => by rw [hrc]
  have e3 : ∀ st pe st' pe', { rc st pe with state := st', pending := pe' } = rc st' pe' := fun st pe st' pe' => by rw [hrc]
  have e4 : ∀ st pe st', { rc st pe with state := st' } = rc st' pe := fun st pe st' => by rw [hrc]
  let W1 := (w.alloc (.deferred (some []))).alloc (.loop (rc .ready none))
  have hs1 : (w.alloc (.deferred (some []))).heap.size = D + 1 := by rw [size_alloc, hD]
  have hl1 : W1.heap[D + 1]? = some (.loop (rc .ready none)) := by
    have := World.alloc_heap_new (w.alloc (.deferred (some []))) (.loop (rc .ready none))
    rwa [hs1] at this
  have hd1 : W1.heap[D]? = some (.deferred (some [])) := by
    have := World.alloc_heap_new w (.deferred (some []))
    rw [hD] at this
    exact (Below.heap_alloc (w.alloc (.deferred (some []))) _ D (by omega)).trans this
  have hb1 : W1.heap[Bn]? = w.heap[Bn]? := (Below.heap_alloc (w.alloc (.deferred (some []))) _ Bn (by omega)).trans (Below.heap_alloc w _ Bn hBn)
  have hi1 : I [] W1 := hI.alloc _ (hI.alloc _ h0)
  refine ⟨D + 1, [{ target := .collected D, args := #[] }], W1, { target := .fn (.func gf) lb, args := #[.func (.yield (D + 1)) #[] #[]] }, W1, gf, #[.func (.yield (D + 1)) #[] #[]] ++ lb, W1, ?_, ?_, fun _ _ => trivial, ?_, fun _ => by omega, ?_⟩
  · show (Instr.enterLoop fn a.tmps ps assign body none).run P w = _
    rw [run_enterLoop_outer, hD]
    show _ = Result.ok _ ((w.alloc (.deferred (some []))).alloc (.loop (rc .ready none)))
    rw [hrc]
  · simp only [resolve, hg]
    simp [go_sem]
  · simp [invoke, go_sem, eg]
  · refine (hiter (D + 1) (fun pre W => I pre W ∧ W.heap[D + 1]? = some (.loop (rc .ready none)) ∧ W.heap[D]? = some (.deferred (some [])))
      (fun pre W => ∃ c, Ix c pre W ∧ W.heap[D + 1]? = some (.loop (rc .done (some c))) ∧ W.heap[D]? = some (.deferred (some []))) W1 (fun _ _ h => h.1) (fun pre W n h => ⟨hId _ _ n h.1, h.2.1, h.2.2⟩)
      (fun pre W v h hu => ⟨hIc _ _ v h.1 hu, (Below.heap_setCell W _ v (D + 1) (by show D + 1 ≠ Bn; omega)).trans h.2.1, (Below.heap_setCell W _ v D (by show D ≠ Bn; omega)).trans h.2.2⟩) ?_ hb1 ⟨hi1, hl1, hd1⟩).mono ?_
    · rintro pre x W ⟨hi, hl, hd⟩
      have hlt : D + 1 < W.heap.size := (Array.getElem?_eq_some_iff.1 hl).1
      have hy := run_yield (P := P) (args := encs x) hl (by rw [hrc]; exact hps x)
      rw [hrc] at hy
      refine ⟨fn, _, assign, body, hy, roundIn_of_wpIn hfn (hassign _ x W _ ⟨_, run_beginRound hl (e1 _ _), ?_⟩)⟩
      rw [e4]
      have hl2 : (W.putObj (D + 1) (.loop (rc .busy none))).heap[D + 1]? = some (.loop (rc .busy none)) := World.putObj_heap_same hlt
      have hd2 : (W.putObj (D + 1) (.loop (rc .busy none))).heap[D]? = some (.deferred (some [])) := (World.putObj_heap_other (by omega)).trans hd
      have hb2 : (W.putObj (D + 1) (.loop (rc .busy none))).heap[Bn]? = W.heap[Bn]? := World.putObj_heap_other (by omega)
      refine wpIn_mono (hbody _ pre x _ (hI.putObj _ hi (by omega) hl rfl)) ?_
      have fin : ∀ (jump : Option Code) (W3 : World), KeepsOthers (W.putObj (D + 1) (.loop (rc .busy none))) W3 →
          (Instr.endRound (D + 1) jump).run P W3 = .ok (.bool jump.isNone) (W3.putObj (D + 1) (.loop (rc (if jump.isNone then .ready else .done) jump))) ∧ W3.heap[D + 1]? = some (.loop (rc .busy none)) ∧
          (W3.putObj (D + 1) (.loop (rc (if jump.isNone then .ready else .done) jump))).heap[D + 1]? = some (.loop (rc (if jump.isNone then .ready else .done) jump)) ∧
          (W3.putObj (D + 1) (.loop (rc (if jump.isNone then .ready else .done) jump))).heap[D]? = some (.deferred (some [])) ∧
          (W3.putObj (D + 1) (.loop (rc (if jump.isNone then .ready else .done) jump))).heap[Bn]? = W3.heap[Bn]? := fun jump W3 hk => by
        have hl3 := hk.same _ _ hl2 rfl
        have hr := run_endRound (P := P) jump hl3
        rw [e3] at hr
        exact ⟨hr, hl3, World.putObj_heap_same (Array.getElem?_eq_some_iff.1 hl3).1, (World.putObj_heap_other (by omega)).trans (hk.same _ _ hd2 rfl), World.putObj_heap_other (by omega)⟩
      rintro e a3 W3 hp
      cases e with
      | normal =>
        obtain ⟨⟨hk, hb3⟩, hi3⟩ := hp
        obtain ⟨hr, hl3, hl4, hd4, hb4⟩ := fin none W3 hk
        exact ⟨_, _, hr, .inl ⟨rfl, hI.putObj _ hi3 (by omega) hl3 rfl, hl4, hd4⟩, hb4.trans (hb3.trans hb2)⟩
      | exit id =>
        obtain ⟨⟨hk, hb3⟩, hi3⟩ := hp
        obtain ⟨hr, hl3, hl4, hd4, hb4⟩ := fin (some (.exit id)) W3 hk
        exact ⟨_, _, hr, .inr ⟨rfl, .exit id, (hIx _).putObj _ hi3 (by omega) hl3 rfl, hl4, hd4⟩, hb4.trans (hb3.trans hb2)⟩
      | ret => exact hp.elim
      | goto t => exact hp.elim
      | panic ch => exact hp.elim
      | outgrown => exact hp.elim
    · rintro e W2 ⟨⟨v, rfl⟩, (⟨xs, hS, hi, hl, hd⟩ | ⟨pre, hSp, c, hi, hl, hd⟩)⟩
      · have hr := run_endLoop (P := P) hl (by rw [e1]; simp)
        rw [e2] at hr
        exact ⟨none, _, hr, hdone D xs _ (by omega) hS (hI.putObj _ hi (by omega) hl rfl) ((World.putObj_heap_other (by omega)).trans hd)⟩
      · have hr := run_endLoop (P := P) hl (by rw [e1]; simp)
        rw [e2] at hr
        exact ⟨some c, _, hr, hstop D c pre _ (by omega) hSp ((hIx c).putObj _ hi (by omega) hl rfl) ((World.putObj_heap_other (by omega)).trans hd)⟩
end Go.Proofs.YtkcechpaeilaeaaGreatDoor
