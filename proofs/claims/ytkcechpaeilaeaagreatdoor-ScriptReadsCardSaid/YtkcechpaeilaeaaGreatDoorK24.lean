/- Joined out of: R9 R10 G5 G6 R11 R16. -/
import Derived.Test.YtkcechpaeilaeaaGreatDoorK23
import Derived.RangeFuncFrom
set_option linter.unusedVariables false
set_option linter.unusedSimpArgs false
namespace Go.Proofs.YtkcechpaeilaeaaGreatDoor
open Go.RowKit
set_option maxRecDepth 20000
def bodyLeftR {α : Type} (Bn : Nat) (I : List α → World → Prop) (Ix : Code → List α → World → Prop) (pre : List α) (x : α) (W : World) : Exit → Act → World → Prop
 | .normal, _, W' => (KeepsOthers W W' ∧ W'.heap[Bn]? = W.heap[Bn]?) ∧ I (pre ++ [x]) W'
 | .exit id, _, W' => (KeepsOthers W W' ∧ W'.heap[Bn]? = W.heap[Bn]?) ∧ Ix (.exit id) pre W'
 | .ret, _, W' => (KeepsOthers W W' ∧ W'.heap[Bn]? = W.heap[Bn]?) ∧ Ix .ret pre W'
 | _, _, _ => False
theorem range_atR {α : Type} {P : Program} {g : Operand} {ps : Array Tmp} {assign body : Code} {Q : Exit → Act → World → Prop} {a : Act} {w : World} {gf : Nat} {lb : Array Value}
  (hg : a.eval g = .func (.func gf) #[] lb) (eg : ∀ args w, (callFunc gf args).run P w = .ok (.enter gf args) w) (encs : α → Array Value) (hps : ∀ x, (encs x).size = ps.size) (Bn : Nat) (hBn : Bn < w.heap.size)
  (I : List α → World → Prop) (Ix : Code → List α → World → Prop) (hI : OwnFrom w.heap.size I) (hIx : ∀ c, OwnFrom w.heap.size (Ix c)) (h0 : I [] w)
  (hId : ∀ pre W n, I pre W → I pre (W.drewN n)) (hIc : ∀ pre W v, I pre W → (∃ u, W.heap[Bn]? = some (.cells #[.string u] 9 (0, 0))) → I pre (W.setCell ⟨Bn, 0, none⟩ (.string v))) (S Sp : List α → Prop) (Nx : List α → α → Prop) (a₁ : α → Act)
  (hiter : ∀ (l : Nat) (J Jx : List α → World → Prop) (W : World), (∀ pre W, J pre W → I pre W) → (∀ pre W n, J pre W → J pre (W.drewN n)) → (∀ pre W v, J pre W → (∃ u, W.heap[Bn]? = some (.cells #[.string u] 9 (0, 0))) → J pre (W.setCell ⟨Bn, 0, none⟩ (.string v))) →
   (∀ pre x W, Nx pre x → J pre W → YieldAt Fence.wide 0 P l (encs x) W fun e W' => ((e = .returned (.bool true) ∧ J (pre ++ [x]) W') ∨ (e = .returned (.bool false) ∧ Jx pre W')) ∧ W'.heap[Bn]? = W.heap[Bn]?) →
   W.heap[Bn]? = w.heap[Bn]? → J [] W → CallsIn Fence.wide 1 P gf (#[.func (.yield l) #[] #[]] ++ lb) W fun e W' => (∃ v, e = .returned v) ∧ ((∃ pre, S pre ∧ J pre W') ∨ (∃ pre, Sp pre ∧ Jx pre W')))
  (hassign : ∀ (l : Nat) (x : α) (W : World) (K : Act → World → Prop), K (a₁ x) W →
   assign.wpIn (Fence.wide.inRound l) 0 P (Exit.then K (fun _ _ _ => False)) { tmps := (ps.zip (encs x)).foldl (fun t (p, v) => t.setIfInBounds p v) a.tmps, defers := [] } W)
  (hbody : ∀ (l : Nat) (pre : List α) (x : α) (W : World), Nx pre x → I pre W → body.wpIn (Fence.wide.inRound l) 0 P (bodyLeftR Bn I Ix pre x W) (a₁ x) W)
  (hdone : ∀ (D : Nat) (xs : List α) (W : World), w.heap.size ≤ D → S xs → I xs W → W.heap[D]? = some (.deferred (some [])) → Q .normal { a with defers := { target := .collected D, args := #[] } :: a.defers } W)
  (hstop : ∀ (D : Nat) (c : Code) (pre : List α) (W : World), w.heap.size ≤ D → Sp pre → Ix c pre W → W.heap[D]? = some (.deferred (some [])) → c.wpIn Fence.wide 2 P Q { a with defers := { target := .collected D, args := #[] } :: a.defers } W) :
  (Code.rangeFunc g ps assign body).wpIn Fence.wide 2 P Q a w := by
 refine wpIn_rangeFunc ?_
 intro fn hfn
 obtain ⟨D, hD⟩ : ∃ D, w.heap.size = D := ⟨_, rfl⟩
 obtain ⟨rc, hrc⟩ : ∃ rc : LoopState → Option Code → Loop, rc = fun st pe => { state := st, pending := pe, fn, tmps := a.tmps, params := ps, assign, body, defers := D } := ⟨_, rfl⟩
 have e1 : ∀ st pe, (rc st pe).state = st := fun st pe => by rw [hrc]
 have e2 : ∀ st pe, (rc st pe).pending = pe := fun st pe => by rw [hrc]
 have e3 : ∀ st pe st' pe', { rc st pe with state := st', pending := pe' } = rc st' pe' := fun st pe st' pe' => by rw [hrc]
 have e4 : ∀ st pe st', { rc st pe with state := st' } = rc st' pe := fun st pe st' => by rw [hrc]
 let W1 := (w.alloc (.deferred (some []))).alloc (.loop (rc .ready none))
 have hs1 : (w.alloc (.deferred (some []))).heap.size = D + 1 := by rw [size_alloc, hD]
 have hl1 : W1.heap[D + 1]? = some (.loop (rc .ready none)) := by
  have := World.alloc_heap_new (w.alloc (.deferred (some []))) (.loop (rc .ready none))
  rwa [hs1] at this
 have hd1 : W1.heap[D]? = some (.deferred (some [])) := by
  have := World.alloc_heap_new w (.deferred (some []))
  rw [hD] at this
  exact (Below.heap_alloc (w.alloc (.deferred (some []))) _ D (by omega)).trans this
 have hb1 : W1.heap[Bn]? = w.heap[Bn]? := (Below.heap_alloc (w.alloc (.deferred (some []))) _ Bn (by omega)).trans (Below.heap_alloc w _ Bn hBn)
 have hi1 : I [] W1 := hI.alloc _ (hI.alloc _ h0)
 refine ⟨D + 1, [{ target := .collected D, args := #[] }], W1, { target := .fn (.func gf) lb, args := #[.func (.yield (D + 1)) #[] #[]] }, W1, gf, #[.func (.yield (D + 1)) #[] #[]] ++ lb, W1, ?_, ?_, fun _ _ => trivial, ?_, fun _ => by omega, ?_⟩
 ·show (Instr.enterLoop fn a.tmps ps assign body none).run P w = _
  rw [run_enterLoop_outer, hD]
  show _ = Result.ok _ ((w.alloc (.deferred (some []))).alloc (.loop (rc .ready none)))
  rw [hrc]
 ·simp only [resolve, hg]
  simp [go_sem]
 ·simp [invoke, go_sem, eg]
 ·refine (hiter (D + 1) (fun pre W => I pre W ∧ W.heap[D + 1]? = some (.loop (rc .ready none)) ∧ W.heap[D]? = some (.deferred (some [])))
   (fun pre W => ∃ c, Ix c pre W ∧ W.heap[D + 1]? = some (.loop (rc .done (some c))) ∧ W.heap[D]? = some (.deferred (some []))) W1 (fun _ _ h => h.1) (fun pre W n h => ⟨hId _ _ n h.1, h.2.1, h.2.2⟩)
   (fun pre W v h hu => ⟨hIc _ _ v h.1 hu, (Below.heap_setCell W _ (.string v) (D + 1) (by show D + 1 ≠ Bn; omega)).trans h.2.1, (Below.heap_setCell W _ (.string v) D (by show D ≠ Bn; omega)).trans h.2.2⟩) ?_ hb1 ⟨hi1, hl1, hd1⟩).mono ?_
  ·rintro pre x W hnx ⟨hi, hl, hd⟩
   have hlt : D + 1 < W.heap.size := (Array.getElem?_eq_some_iff.1 hl).1
   have hy := run_yield (P := P) (args := encs x) hl (by rw [hrc]; exact hps x)
   rw [hrc] at hy
   refine ⟨fn, _, assign, body, hy, roundIn_of_wpIn hfn (hassign _ x W _ ⟨_, run_beginRound hl (e1 _ _), ?_⟩)⟩
   rw [e4]
   have hl2 : (W.putObj (D + 1) (.loop (rc .busy none))).heap[D + 1]? = some (.loop (rc .busy none)) := World.putObj_heap_same hlt
   have hd2 : (W.putObj (D + 1) (.loop (rc .busy none))).heap[D]? = some (.deferred (some [])) := (World.putObj_heap_other (by omega)).trans hd
   have hb2 : (W.putObj (D + 1) (.loop (rc .busy none))).heap[Bn]? = W.heap[Bn]? := World.putObj_heap_other (by omega)
   refine wpIn_mono (hbody _ pre x _ hnx (hI.putObj _ hi (by omega) hl rfl)) ?_
   have fin : ∀ (jump : Option Code) (W3 : World), KeepsOthers (W.putObj (D + 1) (.loop (rc .busy none))) W3 →
     (Instr.endRound (D + 1) jump).run P W3 = .ok (.bool jump.isNone) (W3.putObj (D + 1) (.loop (rc (if jump.isNone then .ready else .done) jump))) ∧ W3.heap[D + 1]? = some (.loop (rc .busy none)) ∧
     (W3.putObj (D + 1) (.loop (rc (if jump.isNone then .ready else .done) jump))).heap[D + 1]? = some (.loop (rc (if jump.isNone then .ready else .done) jump)) ∧
     (W3.putObj (D + 1) (.loop (rc (if jump.isNone then .ready else .done) jump))).heap[D]? = some (.deferred (some [])) ∧
     (W3.putObj (D + 1) (.loop (rc (if jump.isNone then .ready else .done) jump))).heap[Bn]? = W3.heap[Bn]? := fun jump W3 hk => by
    have hl3 := hk.same _ _ hl2 rfl
    have hr := run_endRound (P := P) jump hl3
    rw [e3] at hr
    exact ⟨hr, hl3, World.putObj_heap_same (Array.getElem?_eq_some_iff.1 hl3).1, (World.putObj_heap_other (by omega)).trans (hk.same _ _ hd2 rfl), World.putObj_heap_other (by omega)⟩
   rintro e a3 W3 hp
   cases e with
   | normal =>
    obtain ⟨⟨hk, hb3⟩, hi3⟩ := hp
    obtain ⟨hr, hl3, hl4, hd4, hb4⟩ := fin none W3 hk
    exact ⟨_, _, hr, .inl ⟨rfl, hI.putObj _ hi3 (by omega) hl3 rfl, hl4, hd4⟩, hb4.trans (hb3.trans hb2)⟩
   | exit id =>
    obtain ⟨⟨hk, hb3⟩, hi3⟩ := hp
    obtain ⟨hr, hl3, hl4, hd4, hb4⟩ := fin (some (.exit id)) W3 hk
    exact ⟨_, _, hr, .inr ⟨rfl, .exit id, (hIx _).putObj _ hi3 (by omega) hl3 rfl, hl4, hd4⟩, hb4.trans (hb3.trans hb2)⟩
   | ret =>
    obtain ⟨⟨hk, hb3⟩, hi3⟩ := hp
    obtain ⟨hr, hl3, hl4, hd4, hb4⟩ := fin (some .ret) W3 hk
    exact ⟨_, _, hr, .inr ⟨rfl, .ret, (hIx _).putObj _ hi3 (by omega) hl3 rfl, hl4, hd4⟩, hb4.trans (hb3.trans hb2)⟩
   | goto t => exact hp.elim
   | panic ch => exact hp.elim
   | outgrown => exact hp.elim
  ·rintro e W2 ⟨⟨v, rfl⟩, (⟨xs, hS, hi, hl, hd⟩ | ⟨pre, hSp, c, hi, hl, hd⟩)⟩
   ·have hr := run_endLoop (P := P) hl (by rw [e1]; simp)
    rw [e2] at hr
    exact ⟨none, _, hr, hdone D xs _ (by omega) hS (hI.putObj _ hi (by omega) hl rfl) ((World.putObj_heap_other (by omega)).trans hd)⟩
   ·have hr := run_endLoop (P := P) hl (by rw [e1]; simp)
    rw [e2] at hr
    exact ⟨some c, _, hr, hstop D c pre _ (by omega) hSp ((hIx c).putObj _ hi (by omega) hl rfl) ((World.putObj_heap_other (by omega)).trans hd)⟩
end Go.Proofs.YtkcechpaeilaeaaGreatDoor
namespace Go.Proofs.YtkcechpaeilaeaaGreatDoor
open Go.RowKit
set_option maxRecDepth 100000
theorem run_loadVar_one {w : World} {t : TypeId} {k : IntKind} {b : Nat} {v : Value} (hu : Tryz.prog.underlying t = some (.int k)) (h : w.cell? ⟨b, 0, none⟩ = some v) : (loadVar t ⟨b, 0, none⟩).run Tryz.prog w = .ok v w := by
 have hagg : (isAgg t).run Tryz.prog w = .ok false w := by
  unfold isAgg
  rw [Sem.run_bind, run_underlying hu w]
  rfl
 simp [loadVar, Sem.run_bind, hagg, h]
theorem results_3 {fn : Func} {p q u : Tmp} (h : fn.results = #[.cell p 53, .cell q 3, .cell u 26]) (tmps : Array Value) (w : World) (Z N C : Nat) (cs : List Value) (n c : Value) (hp : tmps.getD p undef = .pointer (some ⟨Z, 0, none⟩)) (hq : tmps.getD q undef = .pointer (some ⟨N, 0, none⟩)) (hu : tmps.getD u undef = .pointer (some ⟨C, 0, none⟩))
  (hr : w.rangeAt Z 0 cs) (hl : cs.length = 6) (hn : w.cell? ⟨N, 0, none⟩ = some n) (hc : w.cell? ⟨C, 0, none⟩ = some c) :
  (results fn tmps).run Tryz.prog w = .ok (.tuple #[.agg cs.toArray, n, c]) w := by
 have e1 := run_loadVar_mid w Z 0 53 cs _ hr Tryz.underlying53 rfl (by rw [hl]; kernel_rfl)
 have e2 := run_loadVar_one U3 hn
 have e3 := run_loadVar_one Tryz.underlying26 hc
 simp only [results, h]
 simp at hp hq hu
 simp [Sem.run_bind, hp, hq, hu, asAddr, e1, e2, e3, Result.andThen]
def PaR (t : List UInt8) (w w' : World) (e : Ending) : Prop :=
 (∃ (s : Sc) (F S X : Option Addr) (cF cS cA : Nat) (n c : Int), e = .returned (.tuple #[.agg #[.int .i64 s.pages, .int .i64 s.cache, .slice F s.fl.length cF, .slice S s.ss.length cS, .int .i64 s.cap, .slice X s.ac.length cA], .int .i64 n, .int .i64 c]) ∧ ScR w' s F cF S cS X cA ∧ POut t (saidS t) (lnGo [] t).length s n c) ∧ KZ w w'
theorem scr_z0 (w : World) : ScR w z0 none 0 none 0 none 0 := ⟨⟨none, 0, rfl, .inl rfl⟩, ⟨none, 0, rfl, .inl rfl⟩, ⟨none, 0, rfl, .inl rfl⟩⟩
theorem out3 (w : World) (cs : List Value) (n c : Value) :
  (((w.alloc (.cells cs.toArray 53)).alloc (.cells #[n] 3)).alloc (.cells #[c] 26)).rangeAt w.heap.size 0 cs ∧
  (((w.alloc (.cells cs.toArray 53)).alloc (.cells #[n] 3)).alloc (.cells #[c] 26)).cell? ⟨w.heap.size + 1, 0, none⟩ = some n ∧
  (((w.alloc (.cells cs.toArray 53)).alloc (.cells #[n] 3)).alloc (.cells #[c] 26)).cell? ⟨w.heap.size + 1 + 1, 0, none⟩ = some c := by
 have h1 : Blk (((w.alloc (.cells cs.toArray 53)).alloc (.cells #[n] 3)).alloc (.cells #[c] 26)) w.heap.size cs 53 := ((Blk.new w cs 53).alloc _).alloc _
 have h2 : Blk (((w.alloc (.cells cs.toArray 53)).alloc (.cells #[n] 3)).alloc (.cells #[c] 26)) (w.heap.size + 1) [n] 3 := by
  have := (Blk.new (w.alloc (.cells cs.toArray 53)) [n] 3).alloc (.cells #[c] 26)
  rwa [size_alloc] at this
 have h3 : Blk (((w.alloc (.cells cs.toArray 53)).alloc (.cells #[n] 3)).alloc (.cells #[c] 26)) (w.heap.size + 1 + 1) [c] 26 := by
  have := Blk.new ((w.alloc (.cells cs.toArray 53)).alloc (.cells #[n] 3)) [c] 26
  rwa [size_alloc, size_alloc] at this
 refine ⟨?_, h2.cell 0, h3.cell 0⟩
 have := h1.range 0 cs.length
 simpa using this
set_option maxHeartbeats 2000000 in
theorem parse_long (t : List UInt8) (ht : 65536 < t.length) (w : World) : Calls Tryz.prog 30 #[.string ⟨t.toArray⟩] w fun e w' => PaR t w w' e := by
 have hI : (65536 : Int) < (t.length : Int) := by omega
 have ht := Hd.mk ht
 go_enter Tryz.func30, Tryz.ntmps30
 go_wp2_with fail
 refine bodyPost_ret (v := .tuple #[.agg #[.int .i64 0, .int .i64 0, .slice none 0 0, .slice none 0 0, .int .i64 0, .slice none 0 0], .int .i64 0, .int .i64 3]) ?_ rfl ?_
 ·obtain ⟨b1, b2, b3⟩ := out3 w [.int .i64 0, .int .i64 0, .slice none 0 0, .slice none 0 0, .int .i64 0, .slice none 0 0] (.int .i64 0) (.int .i64 3)
  exact results_3 rfl _ _ w.heap.size (w.heap.size + 1) (w.heap.size + 1 + 1) [.int .i64 0, .int .i64 0, .slice none 0 0, .slice none 0 0, .int .i64 0, .slice none 0 0] _ _ rfl rfl rfl b1 rfl b2 b3
 ·exact ⟨⟨z0, none, none, none, 0, 0, 0, 0, 3, rfl, scr_z0 _, .inl ⟨ht.out, rfl, rfl, rfl⟩⟩, (((Kp.refl _ w).alloc _).alloc _).alloc _⟩
end Go.Proofs.YtkcechpaeilaeaaGreatDoor
namespace Go.Proofs.YtkcechpaeilaeaaGreatDoor
open Go.RowKit
set_option maxRecDepth 20000
def bodyLeft {α : Type} (Bn : Nat) (I : List α → World → Prop) (Ix : Code → List α → World → Prop) (pre : List α) (x : α) (W : World) : Exit → Act → World → Prop
 | .normal, _, W' => (KeepsOthers W W' ∧ W'.heap[Bn]? = W.heap[Bn]?) ∧ I (pre ++ [x]) W'
 | .exit id, _, W' => (KeepsOthers W W' ∧ W'.heap[Bn]? = W.heap[Bn]?) ∧ Ix (.exit id) pre W'
 | _, _, _ => False
end Go.Proofs.YtkcechpaeilaeaaGreatDoor
namespace Go.Proofs.YtkcechpaeilaeaaGreatDoor
open Go.RowKit
set_option maxRecDepth 100000
section
variable {F : Fence} {m : Nat} {ops : Array Oper} {rest : List Oper} {o : Oper} {a : Act} {Q : Exit → Act → World → Prop} {P : Program}
end
theorem Or.block {b : Nat} {e : TypeId} {size n : Nat} {w : World} {v : Value} {xs : List Value} (h : Or b e size w v n xs) {k : Nat} (hk : v.ownBlock = some k) : ∃ cur, w.heap[k]? = some (.cells cur e (0, 0)) := by
 rcases h.own.2 with ⟨rfl, _⟩ | ⟨g, cap, cur, rfl, hg, hh, _⟩
 ·cases hk
 ·injection hk with hk
  subst hk
  exact ⟨cur, hh⟩
theorem grown_drewN (w : World) (n : Nat) : w.grownBy (w.drewN n) none := ⟨rfl, rfl, rfl, Nat.le_refl _, fun _ _ _ => rfl⟩
structure Gi (w0 : World) (Bn most : Nat) (pre : List (Nat × List UInt8)) (W : World) : Prop where
 b3 : W.heap[w0.heap.size]? = some (.cells #[.int .i64 (most : Int)] 3 (0, 0))
 b5 : ∃ v, W.heap[w0.heap.size + 1]? = some (.cells #[v] 35 (0, 0)) ∧ Or (w0.heap.size + 2) 41 2 W v pre.length (scl pre)
 kp : Kp (· = Bn) w0 W
 le : pre.length ≤ most
 lt : Bn < w0.heap.size
structure Apart (b R : Nat) (S : Nat → Prop) (w : World) : Prop where
 low : ∀ k, S k → (k < b ∧ k ≠ R) ∨ (∀ cur t, w.heap[k]? ≠ some (.cells cur t (0, 0)))
 bytes : ∀ k j u, S k → w.cell? ⟨k, j, none⟩ ≠ some (.int .u8 u)
theorem bs_keepX {S : Nat → Prop} {w w' : World} {v : Value} {l : List Int} (h : Bs w v l) (hk : Kp S w w') (hN : ∀ k j u, S k → w.cell? ⟨k, j, none⟩ ≠ some (.int .u8 u)) : Bs w' v l := by
 refine bs_keepN h hk (fun hl k hk' hs => ?_)
 obtain ⟨A, c, rfl, _, hr⟩ := h
 rcases hr with hr | ⟨g, o, rfl, hr⟩
 ·exact hl hr
 ·injection hk' with hk'
  subst hk'
  cases l with
  | nil => exact hl rfl
  | cons u l => exact hN _ _ u hs (hr 0 (.int .u8 u) rfl)
theorem or_keepX {b R : Nat} {S : Nat → Prop} {e : TypeId} {size n : Nat} {w w' : World} {v : Value} {xs : List Value} (h : Or b e size w v n xs) (hk : Kp S w w') (ha : Apart b R S w) : Or b e size w' v n xs := by
 refine h.keepS hk (fun k hk' hs => ?_)
 rcases ha.low k hs with ⟨h1, _⟩ | h1
 ·have := h.new k hk'; omega
 ·obtain ⟨cur, hc⟩ := h.block hk'
  exact h1 _ _ hc
theorem Rd.keepX {b R : Nat} {S : Nat → Prop} {w w' : World} {s : Sc} {st : Int} {VF VS VA : Value} {cs : List Value} (h : Rd b R w s st VF VS VA cs) (hk : Kp S w w') (ha : Apart b R S w) : Rd b R w' s st VF VS VA cs := by
 have hb : Blk w' R [.int .i64 s.pages, .int .i64 s.cache, VF, VS, .int .i64 s.cap, VA, .int .i64 st] 108 := hk.keeps h.blk (fun hs => by
  rcases ha.low R hs with ⟨_, h1⟩ | h1
  ·exact h1 rfl
  ·exact h1 _ _ h.blk)
 have off : ∀ {v : Value} {l : List Int}, Off R VF VS VA w v l → Off R VF VS VA w' v l := fun g => ⟨bs_keepX g.bs hk ha.bytes, g.r, g.f, g.s, g.a⟩
 refine ⟨hb, or_keepX h.rf hk ha, or_keepX h.rs hk ha, or_keepX h.ra hk ha, fun i a hi => ?_, h.nf, h.ns, h.na, h.fs, h.fa, h.sa⟩
 obtain ⟨At, ct, Ap, cp, h1, h2, h3⟩ := h.acts i a hi
 exact ⟨At, ct, Ap, cp, h1, off h2, off h3⟩
theorem Pfx.lift {L : List (Nat × List UInt8)} {k : Nat} {s : Sc} (M : List (Nat × List UInt8)) (h : Pfx L k s) : Pfx (L ++ M) k s := by
 induction h with
 | start => exact .start
 | more h1 h2 h3 ih => exact .more ih (by rw [List.getElem?_append_left (List.getElem?_eq_some_iff.1 h2).1]; exact h2) h3
def Z6 : List Value := [.int .i64 0, .int .i64 0, .slice none 0 0, .slice none 0 0, .int .i64 0, .slice none 0 0]
structure Pi (B : Nat) (w0 : World) (pre : List (Nat × List UInt8)) (W : World) : Prop where
 z2 : Blk W B Z6 53
 z3 : Blk W (B + 1) [.int .i64 0] 3
 z4 : Blk W (B + 1 + 1) [.int .i64 0] 26
 p5 : Blk W (B + 1 + 1 + 1 + 1) [.pointer (some ⟨B + 1 + 1 + 1, 0, none⟩)] 106
 rd : ∃ s VF VS VA cs, Rd (B + 6) (B + 1 + 1 + 1) W s (stg pre.length s) VF VS VA cs ∧ Pfx pre pre.length s
 kp : KZ w0 W
 sz : w0.heap.size = B
 le : B + 6 ≤ W.heap.size
theorem Pi.keepX {B : Nat} {w0 W W' : World} {pre : List (Nat × List UInt8)} {S : Nat → Prop} (h : Pi B w0 pre W) (hk : Kp S W W') (hn : ∀ k, S k → (k = B + 5) ∨ (B + 6 ≤ k ∧ ∀ cur t, W.heap[k]? ≠ some (.cells cur t (0, 0)))) (hb : ∀ k j u, S k → W.cell? ⟨k, j, none⟩ ≠ some (.int .u8 u)) : Pi B w0 pre W' := by
 have ne : ∀ k, k < B + 5 → ¬ S k := fun k hlt hs => by rcases hn k hs with h1 | ⟨h1, _⟩ <;> omega
 obtain ⟨s, VF, VS, VA, cs, h1, h2⟩ := h.rd
 refine ⟨hk.keeps h.z2 (ne _ (by omega)), hk.keeps h.z3 (ne _ (by omega)), hk.keeps h.z4 (ne _ (by omega)), hk.keeps h.p5 (ne _ (by omega)), ⟨s, VF, VS, VA, cs, h1.keepX hk ⟨fun k hs => ?_, hb⟩, h2⟩, ?_, h.sz, Nat.le_trans h.le hk.size⟩
 ·rcases hn k hs with rfl | ⟨_, h3⟩
  ·exact .inl ⟨by omega, by omega⟩
  ·exact .inr h3
 ·exact h.kp.andThen hk (fun k hlt hs => ne k (by rw [h.sz] at hlt; omega) hs)
theorem Pi.grow {B : Nat} {w0 W W' : World} {pre : List (Nat × List UInt8)} {row : Option Nat} (h : Pi B w0 pre W) (hg : W.grownBy W' row) (hr : ∀ r, row = some r → B + 6 ≤ r ∧ ∃ o : Obj, W.heap[r]? = some o ∧ o.isCells = false) : Pi B w0 pre W' := by
 refine h.keepX (S := fun k => row = some k) ((Kp.refl _ W).grown hg (fun k e => .inr e)) (fun k e => .inr ⟨(hr k e).1, fun cur t hc => ?_⟩) (fun k j u e hc => ?_)
 ·obtain ⟨_, o, h1, h2⟩ := hr k e
  rw [hc] at h1
  cases h1
  cases h2
 ·obtain ⟨_, o, h1, h2⟩ := hr k e
  obtain ⟨o', h3, h4⟩ := cells_of_cell hc
  rw [h1] at h3
  cases h3
  rw [h2] at h4
  cases h4
theorem Pi.set {B : Nat} {w0 W : World} {pre : List (Nat × List UInt8)} (h : Pi B w0 pre W) (v : ByteArray) (hu : ∃ u, W.heap[B + 5]? = some (.cells #[.string u] 9 (0, 0))) : Pi B w0 pre (W.setCell ⟨B + 5, 0, none⟩ (.string v)) := by
 refine h.keepX (S := (· = B + 5)) ((Kp.refl _ W).setCell _ _ (.inr rfl)) (fun k e => .inl e) (fun k j u e hc => ?_)
 subst e
 obtain ⟨x, hx⟩ := hu
 rw [Lib.cell_of_heap hx] at hc
 cases j with
 | zero => simp at hc
 | succ j => simp at hc
structure Px (B : Nat) (w0 : World) (t : List UInt8) (pre : List (Nat × List UInt8)) (W : World) : Prop where
 ex : ∃ x s, pre ++ [x] <+: saidS t ∧ Pfx pre pre.length s ∧ (¬ ∃ s1, Step pre.length s x.2 s1) ∧ Blk W (B + 1) [.int .i64 (x.1 : Int)] 3
 z2 : Blk W B Z6 53
 z4 : Blk W (B + 1 + 1) [.int .i64 270] 26
 kp : KZ w0 W
 sz : w0.heap.size = B
theorem Px.grow {B : Nat} {w0 W W' : World} {t : List UInt8} {pre : List (Nat × List UInt8)} {row : Option Nat} (h : Px B w0 t pre W) (hg : W.grownBy W' row) (hr : ∀ r, row = some r → B + 6 ≤ r ∧ ∃ o : Obj, W.heap[r]? = some o ∧ o.isCells = false) : Px B w0 t pre W' := by
 have hk : Kp (fun k => row = some k) W W' := (Kp.refl _ W).grown hg (fun k e => .inr e)
 have ne : ∀ k, k < B + 5 → ¬ row = some k := fun k hlt hs => by have := (hr k hs).1; omega
 obtain ⟨x, s, h1, h2, h3, h4⟩ := h.ex
 exact ⟨⟨x, s, h1, h2, h3, hk.keeps h4 (ne _ (by omega))⟩, hk.keeps h.z2 (ne _ (by omega)), hk.keeps h.z4 (ne _ (by omega)), h.kp.andThen hk (fun k hlt hs => ne k (by rw [h.sz] at hlt; omega) hs), h.sz⟩
theorem quote_long (b : List UInt8) (q : Bool) : b.length ≤ (quote b q).length := by
 induction b with
 | nil => exact Nat.zero_le _
 | cons c b ih =>
  have h : (quote (c :: b) q) = qone q c ++ quote b q := by simp [quote]
  have h2 : 1 ≤ (qone q c).length := by
   unfold qone
   split <;> simp
  rw [h, List.length_append, List.length_cons]
  omega
theorem Pre.small {k : Nat} {s s1 : Sc} {l : List UInt8} (h : Pre k s l s1) (hs : scOk s) (hl : l.length < 70000) : s1.small := by
 have b := hs.bnd
 have f0 : ∀ x ∈ s.fl, (-2147483648 ≤ x.f ∧ x.f ≤ 2147483647) ∧ (-2147483648 ≤ x.t ∧ x.t ≤ 2147483647) := fun x hx => by
  obtain ⟨i, hi⟩ := List.mem_iff_getElem?.1 hx
  have := b.fl i x hi
  omega
 have s0' : ∀ l ∈ s.ss, l.length ≤ 2000000 := fun x hx => by
  obtain ⟨i, hi⟩ := List.mem_iff_getElem?.1 hx
  have := b.ss i x hi
  omega
 have a0 : s.ac.length ≤ 400 := b.na
 rcases h with ⟨_, n, _, _, rfl⟩ | ⟨_, _, _, x, hx, _, rfl⟩ | ⟨_, _, x, ⟨_, hr⟩, rfl⟩ | ⟨_, a, _, _, rfl⟩
 ·unfold setK
  split
  ·exact ⟨f0, s0', by show s.ac.length ≤ _; omega⟩
  ·split <;> exact ⟨f0, s0', by show s.ac.length ≤ _; omega⟩
 ·refine ⟨fun y hy => ?_, s0', by show s.ac.length ≤ _; omega⟩
  rcases List.mem_append.1 hy with hy | hy
  ·exact f0 y hy
  ·cases List.mem_singleton.1 hy
   unfold small1 at hx
   omega
 ·refine ⟨f0, fun y hy => ?_, by show s.ac.length ≤ _; omega⟩
  rcases List.mem_append.1 hy with hy | hy
  ·exact s0' y hy
  ·cases List.mem_singleton.1 hy
   have h1 := quote_long x false
   rw [← hr] at h1
   have h2 : (rs l).length ≤ l.length := by
    unfold rs
    simp
    have := (List.dropWhile_suffix (l := l) (· != 32)).length_le
    omega
   omega
 ·refine ⟨f0, s0', ?_⟩
  show (s.ac ++ [a]).length ≤ _
  simp
  omega
end Go.Proofs.YtkcechpaeilaeaaGreatDoor
namespace Go.Proofs.YtkcechpaeilaeaaGreatDoor
open Go.RowKit
theorem dig_small {n : Int} (h : small1 n) : dig (Lib.itoa n) = n := by
 obtain ⟨v, rfl⟩ : ∃ v : Nat, n = (v : Int) := ⟨n.toNat, by have := h.1; omega⟩
 exact dig_itoa v (by have := h.2; omega)
theorem itoa_ne' {n : Int} (h : 0 ≤ n) : Lib.itoa n ≠ [] := by
 obtain ⟨v, rfl⟩ : ∃ v : Nat, n = (v : Int) := ⟨n.toNat, by omega⟩
 exact itoa_ne v
theorem wd_nb {x : List UInt8} (h : (32 : UInt8) ∉ x) : wd x = x ∧ rs x = [] := by
 rcases wd_split x with ⟨_, h1, h2⟩ | ⟨_, h1⟩
 ·exact ⟨h1, h2⟩
 ·exact absurd (by rw [h1]; simp) h
theorem fst3_ne (k : Nat) : fst3 k ≠ [] := by
 unfold fst3
 split
 ·decide
 ·split <;> decide
theorem setK_rows (k : Nat) (n : Int) (s : Sc) : (setK k n s).fl = s.fl ∧ (setK k n s).ss = s.ss ∧ (setK k n s).ac = s.ac := by
 unfold setK
 split
 ·exact ⟨rfl, rfl, rfl⟩
 ·split <;> exact ⟨rfl, rfl, rfl⟩
theorem step_head_y {k : Nat} (hk : k < 3) {s : Sc} (hs : scOk s) {l : List UInt8} (h1 : wd l = fst3 k) (h2 : 0 ≤ dig (rs l)) (h3 : headOk (setK k (dig (rs l)) s)) : Step k s l (setK k (dig (rs l)) s) := by
 obtain ⟨e, _⟩ := dig_inv h2
 obtain ⟨r1, r2, r3⟩ := setK_rows k (dig (rs l)) s
 have ok : scOk (setK k (dig (rs l)) s) := ⟨h3, by rw [r3]; exact hs.2.1, by rw [r3]; exact hs.2.2⟩
 have hb := ok.bnd
 refine ⟨.inl ⟨hk, dig (rs l), ⟨h2, ?_⟩, wd_rs h1 (fst3_ne k) e (itoa_ne' h2), rfl⟩, ok⟩
 have g1 := hb.pg.2
 have g2 := hb.ch.2
 have g3 := hb.cp.2
 have : k = 0 ∨ k = 1 ∨ k = 2 := by omega
 rcases this with rfl | rfl | rfl
 ·simp only [setK, if_true] at g1; omega
 ·simp [setK] at g2; omega
 ·simp [setK] at g3; omega
theorem step_head_n {k : Nat} (hk : k < 3) {s s1 : Sc} {l : List UInt8} (h : Step k s l s1) : wd l = fst3 k ∧ 0 ≤ dig (rs l) ∧ headOk (setK k (dig (rs l)) s) := by
 obtain ⟨h, ok⟩ := h
 rcases h with ⟨_, n, hn, rfl, rfl⟩ | ⟨h, _⟩ | ⟨h, _⟩ | ⟨h, _⟩
 ·rw [(wd_hit (fst3_nb k) _).1, (wd_hit (fst3_nb k) _).2, dig_small hn]
  exact ⟨rfl, hn.1, ok.1⟩
 ·omega
 ·omega
 ·omega
theorem ftl_tri (x : Fo) : ftl x = [102, 111, 108, 100] ++ 32 :: tri x.f x.t x.n := by
 simp [ftl, pkI_three, tri]
theorem step_fold_y {k : Nat} (hk : 3 ≤ k) {s : Sc} (hs : scOk s) {l : List UInt8} (h1 : s.ss = []) (h2 : s.ac = []) (x : Fo) (h3 : headOk { s with fl := s.fl ++ [x] }) (h4 : ftl x = l) : Step k s l { s with fl := s.fl ++ [x] } := by
 have ok : scOk { s with fl := s.fl ++ [x] } := ⟨h3, hs.2.1, hs.2.2⟩
 obtain ⟨⟨n1, n2⟩, ⟨f1, f2⟩, t1, t2⟩ := ok.bnd.fl s.fl.length x (by simp)
 exact ⟨.inr (.inl ⟨hk, h1, h2, x, ⟨⟨by omega, by omega⟩, ⟨by omega, by omega⟩, ⟨by omega, by omega⟩⟩, by rw [← h4, ftl_tri], rfl⟩), ok⟩
theorem tri_parts {a b c : Int} (ha : small1 a) (hb : small1 b) (hc : small1 c) : dig (wd (tri a b c)) = a ∧ dig (wd (rs (tri a b c))) = b ∧ dig (wd (rs (rs (tri a b c)))) = c ∧ rs (rs (rs (tri a b c))) = [] := by
 unfold tri
 rw [(wd_hit (itoa_nb ha.1) _).1, (wd_hit (itoa_nb ha.1) _).2, (wd_hit (itoa_nb hb.1) _).1, (wd_hit (itoa_nb hb.1) _).2, (wd_nb (itoa_nb hc.1)).1, (wd_nb (itoa_nb hc.1)).2]
 exact ⟨dig_small ha, dig_small hb, dig_small hc, rfl⟩
def fo3 (r : List UInt8) : Fo := ⟨dig (wd r), dig (wd (rs r)), dig (wd (rs (rs r)))⟩
def three3 (r : List UInt8) : Prop := 0 ≤ dig (wd r) ∧ 0 ≤ dig (wd (rs r)) ∧ 0 ≤ dig (wd (rs (rs r))) ∧ rs (rs (rs r)) = []
theorem step_fold_n {k : Nat} (hk : 3 ≤ k) {s s1 : Sc} {l : List UInt8} (hw : wd l = [102, 111, 108, 100]) (h : Step k s l s1) : three3 (rs l) ∧ headOk { s with fl := s.fl ++ [fo3 (rs l)] } ∧ ftl (fo3 (rs l)) = l := by
 obtain ⟨h, ok⟩ := h
 rcases h with ⟨h, _⟩ | ⟨_, _, _, x, hx, rfl, rfl⟩ | ⟨_, _, x, ⟨hs, _⟩, _⟩ | ⟨_, a, ha, rfl, _⟩
 ·omega
 ·rw [(wd_fold _).2]
  obtain ⟨e1, e2, e3, e4⟩ := tri_parts hx.1 hx.2.1 hx.2.2
  have e : fo3 (tri x.f x.t x.n) = x := by unfold fo3; rw [e1, e2, e3]
  rw [e]
  exact ⟨⟨by rw [e1]; exact hx.1.1, by rw [e2]; exact hx.2.1.1, by rw [e3]; exact hx.2.2.1, e4⟩, ok.1, ftl_tri x⟩
 ·rw [hs] at hw
  simp at hw
 ·exact absurd hw (act_kw ha).1
theorem step_stop_y {k : Nat} (hk : 3 ≤ k) {s : Sc} (hs : scOk s) {l : List UInt8} (h2 : s.ac = []) (hw : wd l = [115, 116, 111, 112]) {b : List UInt8} (h : uq false (rs l) = some b) (h3 : headOk { s with ss := s.ss ++ [b] }) : Step k s l { s with ss := s.ss ++ [b] } :=
 ⟨.inr (.inr (.inl ⟨hk, h2, b, ⟨hw, ((uq_iff false _ b).1 h).symm⟩, rfl⟩)), h3, hs.2.1, hs.2.2⟩
theorem step_stop_n {k : Nat} (hk : 3 ≤ k) {s s1 : Sc} {l : List UInt8} (hw : wd l = [115, 116, 111, 112]) (h : Step k s l s1) : ∃ b, uq false (rs l) = some b ∧ headOk { s with ss := s.ss ++ [b] } := by
 obtain ⟨h, ok⟩ := h
 rcases h with ⟨h, _⟩ | ⟨_, _, _, x, hx, rfl, _⟩ | ⟨_, _, x, ⟨_, hr⟩, rfl⟩ | ⟨_, a, ha, rfl, _⟩
 ·omega
 ·rw [(wd_fold _).1] at hw
  simp at hw
 ·exact ⟨x, (uq_iff false _ x).2 hr.symm, ok.1⟩
 ·exact absurd hw (act_kw ha).2
theorem step_act_y {k : Nat} (hk : 3 ≤ k) {s : Sc} (hs : scOk s) {l : List UInt8} {a : A} (h1 : may a) (h2 : line a = l) (h3 : s.ac.length + 1 ≤ 400) : Step k s l { s with ac := s.ac ++ [a] } :=
 ⟨.inr (.inr (.inr ⟨hk, a, h1, h2, rfl⟩)), hs.1, by rw [List.length_append, List.length_singleton]; exact h3, fun i x hx => by
  simp only at hx
  rcases Nat.lt_or_ge i s.ac.length with hi | hi
  ·rw [List.getElem?_append_left hi] at hx
   exact hs.2.2 i x hx
  ·rw [List.getElem?_append_right hi] at hx
   have h5 : i - s.ac.length = 0 := by
    have := (List.getElem?_eq_some_iff.1 hx).1
    simpa using this
   rw [h5] at hx
   cases hx
   exact h1⟩
theorem step_act_n {k : Nat} (hk : 3 ≤ k) {s s1 : Sc} {l : List UInt8} (h1 : ¬ (wd l = [102, 111, 108, 100] ∧ s.ss = [] ∧ s.ac = [])) (h2 : ¬ (wd l = [115, 116, 111, 112] ∧ s.ac = [])) (h : Step k s l s1) : (∃ a, may a ∧ line a = l) ∧ s.ac.length + 1 ≤ 400 := by
 obtain ⟨h, ok⟩ := h
 rcases h with ⟨h, _⟩ | ⟨_, e1, e2, x, hx, rfl, _⟩ | ⟨_, e1, x, ⟨hs, hr⟩, _⟩ | ⟨_, a, ha, e, rfl⟩
 ·omega
 ·exact absurd ⟨(wd_fold _).1, e1, e2⟩ h1
 ·exact absurd ⟨hs, e1⟩ h2
 ·refine ⟨⟨a, ha, e⟩, ?_⟩
  have := ok.2.1
  rw [List.length_append, List.length_singleton] at this
  exact this
/-! ### what is small -/
theorem scOk.wf {s : Sc} (hs : scOk s) : ∀ x ∈ s.fl, (-2147483648 ≤ x.f ∧ x.f ≤ 2147483647) ∧ (-2147483648 ≤ x.t ∧ x.t ≤ 2147483647) := fun x hx => by
 obtain ⟨i, hi⟩ := List.mem_iff_getElem?.1 hx
 have := hs.bnd.fl i x hi
 omega
theorem scOk.wl {s : Sc} (hs : scOk s) : ∀ l ∈ s.ss, l.length ≤ 2000000 := fun x hx => by
 obtain ⟨i, hi⟩ := List.mem_iff_getElem?.1 hx
 have := hs.bnd.ss i x hi
 omega
theorem small_setK {s : Sc} (hs : scOk s) (k : Nat) (n : Int) : (setK k n s).small := by
 obtain ⟨r1, r2, r3⟩ := setK_rows k n s
 exact ⟨by rw [r1]; exact hs.wf, by rw [r2]; exact hs.wl, by rw [r3]; have := hs.2.1; omega⟩
theorem small_fold {s : Sc} (hs : scOk s) {x : Fo} (hf : 0 ≤ x.f ∧ x.f < 1000000000) (ht : 0 ≤ x.t ∧ x.t < 1000000000) : ({ s with fl := s.fl ++ [x] } : Sc).small :=
 ⟨fun y hy => by
  rcases List.mem_append.1 hy with hy | hy
  ·exact hs.wf y hy
  ·cases List.mem_singleton.1 hy
   omega, hs.wl, by have := hs.2.1; show s.ac.length ≤ _; omega⟩
theorem small_stop {s : Sc} (hs : scOk s) {b : List UInt8} (hb : b.length ≤ 2000000) : ({ s with ss := s.ss ++ [b] } : Sc).small :=
 ⟨hs.wf, fun y hy => by
  rcases List.mem_append.1 hy with hy | hy
  ·exact hs.wl y hy
  ·cases List.mem_singleton.1 hy
   exact hb, by have := hs.2.1; show s.ac.length ≤ _; omega⟩
theorem bnd_head {s : Sc} (h : headOk s) : Bnd { s with ac := [] } := by
 have : scOk { s with ac := [] } := ⟨h, by simp, fun i a hi => by simp at hi⟩
 exact this.bnd
/-! ### a script's rows, each of its own -/
structure Rz (b : Nat) (w : World) (s : Sc) (VF VS VA : Value) (cs : List Value) : Prop where
 rf : Or b 100 3 w VF s.fl.length (fcl s.fl)
 rs : Or b 9 1 w VS s.ss.length (wcl s.ss)
 ra : Or b 24 5 w VA s.ac.length cs
 acts : ∀ (i : Nat) (a : A), s.ac[i]? = some a → ∃ At ct Ap cp, (∀ j v, (arow a At ct Ap cp)[j]? = some v → cs[i * 5 + j]? = some v) ∧ BsF b w (.slice At a.t.length ct) (ints a.t) ∧ BsF b w (.slice Ap a.p.length cp) (ints a.p)
 one : ∀ u ∈ cs, u.oneCell' = true
 zf : s.fl.length = 0 → VF = .slice none 0 0
 zs : s.ss.length = 0 → VS = .slice none 0 0
 za : s.ac.length = 0 → VA = .slice none 0 0
theorem BsF.keepS {S : Nat → Prop} {b : Nat} {w w' : World} {v : Value} {l : List Int} (h : BsF b w v l) (hk : Kp S w w') (hS : ∀ k, S k → k < b) : BsF b w' v l :=
 ⟨bs_keepS h.bs hk (fun k hk' hs => by have := h.fr k hk'; have := hS k hs; omega), h.fr⟩
theorem BsF.mono {b b' : Nat} {w : World} {v : Value} {l : List Int} (h : BsF b' w v l) (hb : b ≤ b') : BsF b w v l := ⟨h.bs, fun k hk => Nat.le_trans hb (h.fr k hk)⟩
section
variable {b : Nat} {w w' : World} {s : Sc} {VF VS VA : Value} {cs : List Value}
theorem Rz.keepS {S : Nat → Prop} (h : Rz b w s VF VS VA cs) (hk : Kp S w w') (hS : ∀ k, S k → k < b) : Rz b w' s VF VS VA cs := by
 have ne : ∀ {e : TypeId} {size n : Nat} {v : Value} {xs : List Value}, Or b e size w v n xs → Or b e size w' v n xs := fun g => g.keepS hk (fun k hk' hs => by have := g.new k hk'; have := hS k hs; omega)
 exact ⟨ne h.rf, ne h.rs, ne h.ra, fun i a ha => by
  obtain ⟨At, ct, Ap, cp, h1, h2, h3⟩ := h.acts i a ha
  exact ⟨At, ct, Ap, cp, h1, h2.keepS hk hS, h3.keepS hk hS⟩, h.one, h.zf, h.zs, h.za⟩
theorem Rz.keep (h : Rz b w s VF VS VA cs) (hk : KZ w w') : Rz b w' s VF VS VA cs := h.keepS hk (fun _ h => h.elim)
theorem Rz.head (h : Rz b w s VF VS VA cs) (p c k : Int) : Rz b w { s with pages := p, cache := c, cap := k } VF VS VA cs := ⟨h.rf, h.rs, h.ra, h.acts, h.one, h.zf, h.zs, h.za⟩
theorem Rz.fold (h : Rz b w s VF VS VA cs) {V : Value} {x : Fo} (ho : Or b 100 3 w V (s.fl.length + 1) (fcl s.fl ++ [.int .i32 x.f, .int .i32 x.t, .int .i64 x.n])) : Rz b w { s with fl := s.fl ++ [x] } V VS VA cs := by
 refine ⟨?_, h.rs, h.ra, h.acts, h.one, fun h0 => by simp at h0, h.zs, h.za⟩
 have e : fcl (s.fl ++ [x]) = fcl s.fl ++ [.int .i32 x.f, .int .i32 x.t, .int .i64 x.n] := by simp [fcl]
 simp only [e, List.length_append, List.length_singleton]
 exact ho
theorem Rz.word (h : Rz b w s VF VS VA cs) {V : Value} {x : List UInt8} (ho : Or b 9 1 w V (s.ss.length + 1) (wcl s.ss ++ [.string ⟨x.toArray⟩])) : Rz b w { s with ss := s.ss ++ [x] } VF V VA cs := by
 refine ⟨h.rf, ?_, h.ra, h.acts, h.one, h.zf, fun h0 => by simp at h0, h.za⟩
 simp only [wcl_app, List.length_append, List.length_singleton]
 exact ho
theorem Rz.act (h : Rz b w s VF VS VA cs) {V : Value} {x : A} {At Ap : Option Addr} {ct cp : Nat} (ho : Or b 24 5 w V (s.ac.length + 1) (cs ++ arow x At ct Ap cp))
  (hT : BsF b w (.slice At x.t.length ct) (ints x.t)) (hP : BsF b w (.slice Ap x.p.length cp) (ints x.p)) : Rz b w { s with ac := s.ac ++ [x] } VF VS V (cs ++ arow x At ct Ap cp) := by
 have hcl : cs.length = s.ac.length * 5 := h.ra.own.1
 refine ⟨h.rf, h.rs, ?_, ?_, ?_, h.zf, h.zs, fun h0 => by simp at h0⟩
 ·simp only [List.length_append, List.length_singleton]
  exact ho
 ·intro i a ha
  rcases Nat.lt_or_ge i s.ac.length with hi | hi
  ·simp only at ha
   rw [List.getElem?_append_left hi] at ha
   obtain ⟨Bt, dt, Bp, dp, h1, h2, h3⟩ := h.acts i a ha
   refine ⟨Bt, dt, Bp, dp, fun j v hv => ?_, h2, h3⟩
   have h4 := h1 j v hv
   rw [List.getElem?_append_left (List.getElem?_eq_some_iff.1 h4).1]
   exact h4
  ·simp only at ha
   rw [List.getElem?_append_right hi] at ha
   have h5 : i - s.ac.length = 0 := by
    have := (List.getElem?_eq_some_iff.1 ha).1
    simpa using this
   rw [h5] at ha
   cases ha
   obtain rfl : i = s.ac.length := by omega
   refine ⟨At, ct, Ap, cp, fun j v hv => ?_, hT, hP⟩
   rw [List.getElem?_append_right (by omega), show s.ac.length * 5 + j - cs.length = j by omega]
   exact hv
 ·intro u hu
  rcases List.mem_append.1 hu with hu | hu
  ·exact h.one u hu
  ·exact one5 u hu
theorem Rz.ar (h : Rz b w s VF VS VA cs) : Ar w VA s.ac := by
 obtain ⟨A, c, e, hc⟩ := h.ra.slice
 have hra := h.ra
 rw [e] at hra
 refine ⟨A, c, e, ?_⟩
 rcases Nat.eq_zero_or_pos s.ac.length with h0 | h0
 ·exact .inl (List.length_eq_zero_iff.1 h0)
 ·obtain ⟨g, rfl, hr, _⟩ := hra.at h0
  refine .inr ⟨g, 0, rfl, fun i a ha => ?_⟩
  obtain ⟨At, ct, Ap, cp, h1, h2, h3⟩ := h.acts i a ha
  refine ⟨At, ct, Ap, cp, fun j v hv => ?_, h2.bs, h3.bs⟩
  have := hr _ v (h1 j v hv)
  rw [← Nat.add_assoc] at this
  exact this
end
theorem Rz.scr2 {b : Nat} {w : World} {s : Sc} {F S X : Option Addr} {cF cS cA : Nat} {cs : List Value} (h : Rz b w s (.slice F s.fl.length cF) (.slice S s.ss.length cS) (.slice X s.ac.length cA) cs) : ScR w s F cF S cS X cA := ⟨or_fr h.rf, h.rs.wos, h.ar⟩
theorem fcl_one (l : List Fo) : ∀ u ∈ fcl l, u.oneCell' = true := by
 intro u hu
 simp only [fcl, List.mem_flatMap] at hu
 obtain ⟨x, _, hu⟩ := hu
 simp only [List.mem_cons, List.not_mem_nil, or_false] at hu
 rcases hu with rfl | rfl | rfl <;> rfl
theorem wcl_one (l : List (List UInt8)) : ∀ u ∈ wcl l, u.oneCell' = true := by
 intro u hu
 simp only [wcl, List.mem_map] at hu
 obtain ⟨x, _, rfl⟩ := hu
 rfl
def rowS (s : Sc) (VF VS VA : Value) : List Value := [.int .i64 s.pages, .int .i64 s.cache, VF, VS, .int .i64 s.cap, VA]
def ReR (b k : Nat) (s : Sc) (l : List UInt8) (w w' : World) (e : Ending) : Prop :=
 (∃ (s1 : Sc) (F S X : Option Addr) (cF cS cA : Nat) (q : Bool), e = .returned (.tuple #[.agg (rowS s1 (.slice F s1.fl.length cF) (.slice S s1.ss.length cS) (.slice X s1.ac.length cA)).toArray, .bool q]) ∧
  (q = true → Step k s l s1 ∧ ∃ cs, Rz b w' s1 (.slice F s1.fl.length cF) (.slice S s1.ss.length cS) (.slice X s1.ac.length cA) cs) ∧ (q = false → ¬ ∃ s1, Step k s l s1)) ∧ KZ w w'
/-! ### the variables of 'read' -/
theorem results_2s {fn : Func} {p u : Tmp} (h : fn.results = #[.cell p 53, .tmp u]) (tmps : Array Value) (w : World) (Z : Nat) (cs : List Value) (v : Value) (hp : tmps.getD p undef = .pointer (some ⟨Z, 0, none⟩)) (hu : tmps.getD u undef = v)
  (hr : w.rangeAt Z 0 cs) (hl : cs.length = 6) : (results fn tmps).run Tryz.prog w = .ok (.tuple #[.agg cs.toArray, v]) w := by
 have e1 := run_loadVar_mid w Z 0 53 cs _ hr Tryz.underlying53 rfl (by rw [hl]; kernel_rfl)
 simp only [results, h]
 simp at hp hu
 simp [Sem.run_bind, hp, hu, asAddr, e1, Result.andThen]
structure Rx (R : Nat) (w W : World) (row out : List Value) : Prop where
 bx : Blk W R row 53
 ou : Blk W (R + 1) out 53
 kp : KZ w W
 sz : w.heap.size = R
theorem Rx.start (w : World) (row : List Value) : Rx w.heap.size w ((w.alloc (.cells row.toArray 53)).alloc (.cells Z6.toArray 53)) row Z6 := by
 have b2 := Blk.new (w.alloc (.cells row.toArray 53)) Z6 53
 rw [size_alloc] at b2
 exact ⟨(Blk.new w row 53).alloc _, b2, ((Kp.refl _ w).alloc _).alloc _, rfl⟩
section
variable {R : Nat} {w W : World} {row out : List Value}
theorem Rx.keep {W' : World} (h : Rx R w W row out) (k : KZ W W') : Rx R w W' row out := ⟨k.keeps h.bx id, k.keeps h.ou id, h.kp.th k, h.sz⟩
theorem Rx.put (h : Rx R w W row out) (i : Nat) (v : Value) : Rx R w (W.setCell ⟨R, i, none⟩ v) (row.set i v) out :=
 ⟨h.bx.set i v, h.ou.other _ _ (by show R + 1 ≠ R; omega), h.kp.setCell _ _ (.inl (by rw [h.sz]; exact Nat.le_refl _)), h.sz⟩
theorem Rx.lt (h : Rx R w W row out) : R + 2 ≤ W.heap.size := blk_lt h.ou
theorem Rx.give (h : Rx R w W row out) (ho : out.length = 6) {W2 : World} {vs : List Value} (hb : Blk W2 (R + 1) (splice out 0 vs) 53) (hk : Kp (· = R + 1) W W2) (hl : vs.length = 6) : W2.rangeAt (R + 1) 0 vs ∧ KZ w W2 := by
 have hsp : splice out 0 vs = vs := by
  unfold splice
  simp [ho, hl]
 rw [hsp] at hb
 have := hb.range 0 6
 rw [List.drop_zero, List.take_of_length_le (by omega)] at this
 exact ⟨this, h.kp.andThen hk (fun i hi e => by rw [h.sz] at hi; omega)⟩
end
theorem six_one {a b c : Int} {F S X : Option Addr} {m n p q r t : Nat} : ∀ v ∈ ([.int .i64 a, .int .i64 b, .slice F m n, .slice S p q, .int .i64 c, .slice X r t] : List Value), v.oneCell' = true := by
 intro v hv
 simp only [List.mem_cons, List.not_mem_nil, or_false] at hv
 rcases hv with rfl | rfl | rfl | rfl | rfl | rfl <;> rfl
end Go.Proofs.YtkcechpaeilaeaaGreatDoor
