/- What an iterator over a text's lines says, gathered: so many at most. -/
import Derived.Test.YtkcechpaeilaeaaGreatDoorG5
namespace Go.Proofs.YtkcechpaeilaeaaGreatDoor
open Go.RowKit
set_option linter.unusedVariables false
set_option linter.unusedSimpArgs false
set_option maxRecDepth 100000
section
variable {F : Fence} {m : Nat} {ops : Array Oper} {rest : List Oper} {o : Oper} {a : Act} {Q : Exit → Act → World → Prop} {P : Program}
theorem li_or2 {b : Nat} {w : World} (hF : ∀ f, F.fn f) (hg : o.guard = none) (s x : Operand) (t : TypeId) (ho : o.op = .call { callee := .builtin .append, args := #[s, x], argTypes := #[t, t] })
    (e : TypeId) (size bytes : Nat) {z : Value} (ht : Tryz.prog.underlying t = some (.slice e)) (hinf : (Tryz.prog.info? e).map (fun i => (i.zero, i.size, i.bytes)) = some (some z, size, bytes)) (hzs : z.cells.size = size) (hsz : 0 < size) (hby : bytes ≤ 1000)
    (v : Value) (n : Nat) (xs : List Value) (hs : a.eval s = v) (hown : Or b e size w v n xs) (hb : b ≤ w.heap.size)
    (g c : Nat) (news : List Value) (hx : a.eval x = .slice (some ⟨g, 0, none⟩) 1 c) (hl : news.length = size) (hnews : w.rangeAt g 0 news) (h1 : ∀ u ∈ news, u.oneCell' = true) (hn : n ≤ 1000000000)
    (h : ∀ v' w', Or b e size w' v' (n + 1) (xs ++ news) → Below b w w' → Kp (fun k => v.ownBlock = some k) w w' → (∀ k, v'.ownBlock = some k → v.ownBlock = some k ∨ w.heap.size ≤ k) → wpListIn F m Tryz.prog ops Q rest (a.put o.dst v') w') : wpListIn F m Tryz.prog ops Q (o :: rest) a w := by
  obtain ⟨i0, hi, hz0, hz1, hz2⟩ := info_parts hinf
  obtain ⟨v', w', hr, h2, h3, h4⟩ := run_append_mine (P := Tryz.prog) w t o.type e i0 z size bytes ht hi hz0 hz1 hz2 hzs hsz v n xs hown.own ⟨g, 0, none⟩ 1 c news (by omega) (rangeAt_add hnews) h1 (by simp only [maxLen]; omega) (by
    have : (n + 1) * bytes ≤ 1000000001 * 1000 := Nat.mul_le_mul (by omega) hby
    omega) (by omega)
  refine li_run (v := v') (w' := w') hF (by rw [ho]; intro c h; cases h) hg (by
    unfold execOp
    simp only [ho, resolve, invoke, builtin, Sem.run_bind, Sem.run_pure, Result.andThen_ok, List.map_toArray, List.map_cons, List.map_nil, hs, hx, hr]) ?_
  exact h v' w' ⟨h2, fun k hk => (h4 k hk).elim (hown.new k) (fun h => Nat.le_trans hb h)⟩ (h3.toBelow hb (fun k hk => hown.new k hk)) h3 h4
end
theorem Or.block {b : Nat} {e : TypeId} {size n : Nat} {w : World} {v : Value} {xs : List Value} (h : Or b e size w v n xs) {k : Nat} (hk : v.ownBlock = some k) : ∃ cur, w.heap[k]? = some (.cells cur e (0, 0)) := by
  rcases h.own.2 with ⟨rfl, _⟩ | ⟨g, cap, cur, rfl, hg, hh, _⟩
  · cases hk
  · injection hk with hk
    subst hk
    exact ⟨cur, hh⟩
theorem Or.stay {b : Nat} {e : TypeId} {size n : Nat} {w w' : World} {v : Value} {xs : List Value} (h : Or b e size w v n xs) (hk : ∀ k, v.ownBlock = some k → w'.heap[k]? = w.heap[k]?) : Or b e size w' v n xs :=
  ⟨ownsRow_keep h.own (fun k h1 _ => hk k h1), h.new⟩
theorem grown_drewN (w : World) (n : Nat) : w.grownBy (w.drewN n) none := ⟨rfl, rfl, rfl, Nat.le_refl _, fun _ _ _ => rfl⟩
/-- What has been gathered so far. -/
structure Gi (w0 : World) (Bn most : Nat) (pre : List (Nat × List UInt8)) (W : World) : Prop where
  b3 : W.heap[w0.heap.size]? = some (.cells #[.int .i64 (most : Int)] 3 (0, 0))
  b5 : ∃ v, W.heap[w0.heap.size + 1]? = some (.cells #[v] 35 (0, 0)) ∧ Or (w0.heap.size + 2) 41 2 W v pre.length (scl pre)
  kp : Kp (· = Bn) w0 W
  le : pre.length ≤ most
  lt : Bn < w0.heap.size
theorem Gi.grow {w0 : World} {Bn most : Nat} {pre : List (Nat × List UInt8)} {W W' : World} {row : Option Nat} (h : Gi w0 Bn most pre W) (hg : W.grownBy W' row) (hr : ∀ r, row = some r → w0.heap.size + 2 ≤ r ∧ ∃ o : Obj, W.heap[r]? = some o ∧ o.isCells = false) : Gi w0 Bn most pre W' := by
  have st : ∀ k (o : Obj), W.heap[k]? = some o → o.isCells = true → W'.heap[k]? = some o := fun k o hk ho => by
    rw [hg.block k (Array.getElem?_eq_some_iff.1 hk).1 (fun e => ?_)]; exact hk
    obtain ⟨_, o', h1, h2⟩ := hr k e.symm
    rw [hk] at h1
    cases h1
    rw [ho] at h2
    cases h2
  obtain ⟨v, hv, ho⟩ := h.b5
  refine ⟨st _ _ h.b3 rfl, ⟨v, st _ _ hv rfl, ho.stay (fun k hk => ?_)⟩, h.kp.grown hg (fun k e => .inl (by have := (hr k e).1; omega)), h.le, h.lt⟩
  obtain ⟨cur, hc⟩ := ho.block hk
  rw [st _ _ hc rfl, hc]
theorem Gi.set {w0 : World} {Bn most : Nat} {pre : List (Nat × List UInt8)} {W : World} (h : Gi w0 Bn most pre W) (v : Value) : Gi w0 Bn most pre (W.setCell ⟨Bn, 0, none⟩ v) := by
  have hlt := h.lt
  obtain ⟨u, hv, ho⟩ := h.b5
  refine ⟨(Below.heap_setCell W _ v _ (by show w0.heap.size ≠ Bn; omega)).trans h.b3, ⟨u, (Below.heap_setCell W _ v _ (by show w0.heap.size + 1 ≠ Bn; omega)).trans hv, ho.stay (fun k hk => ?_)⟩, h.kp.setCell _ _ (.inr rfl), h.le, h.lt⟩
  exact Below.heap_setCell W _ v k (by have := ho.new k hk; show k ≠ Bn; omega)
/-- One more. -/
theorem Gi.put {w0 : World} {Bn most : Nat} {pre : List (Nat × List UInt8)} {W w3 : World} {o : Obj} {v v' : Value} {x : Nat × List UInt8} (h : Gi w0 Bn most pre W) (hv : W.heap[w0.heap.size + 1]? = some (.cells #[v] 35 (0, 0))) (ho : Or (w0.heap.size + 2) 41 2 W v pre.length (scl pre)) (hlt : pre.length < most)
    (ho' : Or (w0.heap.size + 2) 41 2 w3 v' (pre.length + 1) (scl pre ++ [.int .i64 (x.1 : Int), .string ⟨x.2.toArray⟩])) (hk : Kp (fun k => v.ownBlock = some k) (W.alloc o) w3) (hn : ∀ k, v'.ownBlock = some k → v.ownBlock = some k ∨ (W.alloc o).heap.size ≤ k) (hcell : o.isCells = true) :
    w3.heap[w0.heap.size + 1]? = some (.cells #[v] 35 (0, 0)) ∧ (KeepsOthers W (w3.setCell ⟨w0.heap.size + 1, 0, none⟩ v') ∧ (w3.setCell ⟨w0.heap.size + 1, 0, none⟩ v').heap[Bn]? = W.heap[Bn]?) ∧ Gi w0 Bn most (pre ++ [x]) (w3.setCell ⟨w0.heap.size + 1, 0, none⟩ v') := by
  have hBn := h.lt
  have h2 : w0.heap.size + 1 < W.heap.size := (Array.getElem?_eq_some_iff.1 hv).1
  have old : ∀ k, k < W.heap.size → v.ownBlock ≠ some k → w3.heap[k]? = W.heap[k]? := fun k hkl hne => (hk.block k (by rw [size_alloc]; omega) hne).trans (Below.heap_alloc W o k hkl)
  have nn : ∀ k, k < w0.heap.size + 2 → v.ownBlock ≠ some k := fun k hk2 e => by have := ho.new k e; omega
  have hsz : W.heap.size + 1 ≤ w3.heap.size := by have := hk.size; rwa [size_alloc] at this
  have e5 : w3.heap[w0.heap.size + 1]? = some (.cells #[v] 35 (0, 0)) := (old _ h2 (nn _ (by omega))).trans hv
  have hss : (w3.setCell ⟨w0.heap.size + 1, 0, none⟩ v').heap.size = w3.heap.size := by show (w3.heap.modify _ _).size = _; simp
  refine ⟨e5, ⟨⟨by rw [hss]; omega, fun k ob hkb hob => ?_⟩, ?_⟩, ?_⟩
  · have hkl := (Array.getElem?_eq_some_iff.1 hkb).1
    rw [Below.heap_setCell w3 _ v' k (by
      show k ≠ w0.heap.size + 1
      intro e; subst e
      rw [hv] at hkb; cases hkb; cases hob), old k hkl (fun e => by
      obtain ⟨cur, hc⟩ := ho.block e
      rw [hc] at hkb; cases hkb; cases hob)]
    exact hkb
  · rw [Below.heap_setCell w3 _ v' Bn (by show Bn ≠ w0.heap.size + 1; omega)]
    exact old Bn (by omega) (nn Bn (by omega))
  · refine ⟨?_, ⟨v', heap_setCell1 v' e5, ?_⟩, ?_, by simp; omega, h.lt⟩
    · rw [Below.heap_setCell w3 _ v' w0.heap.size (by show w0.heap.size ≠ w0.heap.size + 1; omega), old _ (by omega) (nn _ (by omega))]
      exact h.b3
    · have := ho'.stay (w' := w3.setCell ⟨w0.heap.size + 1, 0, none⟩ v') (fun k hk => Below.heap_setCell w3 _ v' k (by have := ho'.new k hk; show k ≠ w0.heap.size + 1; omega))
      rw [scl_app, List.length_append]
      exact this
    · refine Kp.setCell ?_ _ _ (.inl (by show w0.heap.size ≤ w0.heap.size + 1; omega))
      exact (h.kp.alloc o).andThen hk (fun i hi e => absurd e (nn i (by omega)))
end Go.Proofs.YtkcechpaeilaeaaGreatDoor
