/- A device beside blocks of one's own. -/
import Derived.Test.YtkcechpaeilaeaaP2
import Derived.Test.YtkcechpaeilaeaaD12
namespace Go.Proofs.Ytkcechpaeilaeaa
open Go.RowKit
set_option linter.unusedVariables false
set_option linter.unusedSimpArgs false

/-- The device lies in F0, or in blocks that are new since w0; besides these only X was written since. -/
def Dx (F0 X : Nat → Prop) (w0 w : World) (d : Nat) (M : DM) : Prop := (∃ F, DiskAt w d M F ∧ ∀ k, F k → F0 k ∨ w0.heap.size ≤ k) ∧ Kp (fun k => F0 k ∨ X k) w0 w
theorem Dx.start {F0 X : Nat → Prop} {w : World} {d : Nat} {M : DM} (h : DiskAt w d M F0) : Dx F0 X w w d M := ⟨⟨F0, h, fun k hk => .inl hk⟩, Kp.refl _ _⟩
theorem Dx.old {F0 X : Nat → Prop} {w0 w w' : World} {d : Nat} {M : DM} (h : Dx F0 X w0 w d M) (k : Old w w') : Dx F0 X w0 w' d M := by
  obtain ⟨⟨F, h1, h2⟩, h3⟩ := h
  exact ⟨⟨F, h1.keep k (fun _ _ => id), h2⟩, h3.andThen k (fun _ _ h => h.elim)⟩
theorem Dx.set {F0 X : Nat → Prop} {w0 w : World} {d : Nat} {M : DM} (h : Dx F0 X w0 w d M) {W : Nat} (hX : X W) (hF : ¬ F0 W) (hW : W < w0.heap.size) (i : Nat) (v : Value) : Dx F0 X w0 (w.setCell ⟨W, i, none⟩ v) d M := by
  obtain ⟨⟨F, h1, h2⟩, h3⟩ := h
  refine ⟨⟨F, h1.keep (X := (· = W)) ((Kp.refl _ w).cell i v) (fun k hk e => ?_), h2⟩, h3.setCell _ _ (.inr (.inr hX))⟩
  subst e
  rcases h2 _ hk with h | h
  · exact hF h
  · omega
theorem Dx.lt {F0 X : Nat → Prop} {w0 w : World} {d : Nat} {M : DM} (h : Dx F0 X w0 w d M) : w0.heap.size ≤ w.heap.size := h.2.size
/-- A block that was there, and is neither the device's nor X's, is as it was. -/
theorem Dx.blk {F0 X : Nat → Prop} {w0 w : World} {d : Nat} {M : DM} (h : Dx F0 X w0 w d M) {b : Nat} (hb : b < w0.heap.size) (h0 : ¬ F0 b) (h1 : ¬ X b) : w.heap[b]? = w0.heap[b]? := h.2.block b hb (fun h => h.elim h0 h1)
/-- All that was there ahead of the device's first block is as it was. -/
theorem Dx.since {F0 X : Nat → Prop} {wz w0 w : World} {d : Nat} {M : DM} (h : Dx F0 X w0 w d M) (hz : Old wz w0) (h0 : ∀ k, F0 k → wz.heap.size ≤ k) (h1 : ∀ k, X k → wz.heap.size ≤ k) : Old wz w :=
  hz.andThen h.2 (fun i hi hf => by rcases hf with hf | hf; have := h0 i hf; omega; have := h1 i hf; omega)
theorem dx_write {F0 X : Nat → Prop} {w0 w1 w : World} {d n K : Nat} {M : DM} (h : Dx F0 X w0 w1 d M) (hk : Old w1 w) (hc : Calm M n K) (hK : K < 1073741824) (p : Nat) (hp : p < n) (b : Nat) (t : TypeId) (l : List Int) (hl : l.length = 256) (hr : Blk w b (u8s l) t) (hb : w1.heap.size ≤ b) :
    Calls Try.prog 12 #[.pointer (some ⟨d, 0, none⟩), .int .i64 p, .slice (some ⟨b, 0, none⟩) 256 256] w fun e w' => e = .returned (.int .i64 0) ∧ Dx F0 X w0 w' d (writeM M p l) ∧ Kp (fun k => k < w1.heap.size ∧ (F0 k ∨ w0.heap.size ≤ k)) w w' := by
  obtain ⟨⟨F, h1, h2⟩, h3⟩ := h
  have hw := write_yes (h1.keep hk (fun _ _ => id)) p b 0 256 l hl (Blk_range hr) (fun hf => by have := h1.lt _ hf; omega) (hc.atE p hp) (by have := hc.ops; omega) (by have := hc.ws; omega)
  rw [hc.writeE] at hw
  refine hw.mono ?_
  rintro e w' ⟨rfl, ⟨F', h4, h5⟩, h6⟩
  refine ⟨rfl, ⟨⟨F', h4, fun k hk' => ?_⟩, (h3.andThen hk (fun _ _ h => h.elim)).andThen h6 (fun i hi hf => ?_)⟩, h6.mono (fun k _ hf => ⟨h1.lt _ hf, h2 k hf⟩)⟩
  · rcases h5 k hk' with h | h
    · exact h2 k h
    · have a := h3.size; have b := hk.size; exact .inr (by omega)
  · rcases h2 i hf with h | h
    · exact .inl h
    · omega
theorem dx_crash {F0 X : Nat → Prop} {w0 w : World} {d : Nat} {M : DM} (h : Dx F0 X w0 w d M) {v : Value} {pick : List Int} (hv : Bs w v pick) (hb : Bytes pick) (hF : pick ≠ [] → ∀ k, v.ownBlock = some k → k < w0.heap.size ∧ ¬ F0 k) :
    Calls Try.prog 13 #[.pointer (some ⟨d, 0, none⟩), v] w fun e w' => e = .returned (.int .i64 0) ∧ Dx F0 X w0 w' d (crashM M pick) ∧ Kp (fun k => F0 k ∨ w0.heap.size ≤ k) w w' := by
  obtain ⟨⟨F, h1, h2⟩, h3⟩ := h
  refine (crash_gen h1 hv hb (fun hp k hk hf => ?_)).mono ?_
  · obtain ⟨h4, h5⟩ := hF hp k hk
    rcases h2 k hf with h | h
    · exact h5 h
    · omega
  · rintro e w' ⟨rfl, h4, h5⟩
    refine ⟨rfl, ⟨⟨F, h4, h2⟩, h3.andThen h5 (fun i hi hf => ?_)⟩, h5.mono (fun k _ hf => h2 k hf)⟩
    rcases h2 i hf with h | h
    · exact .inl h
    · omega
theorem Calm.crash {M : DM} {n K : Nat} (h : Calm M n K) (hok : M.Ok) (pick : List Int) : Calm (crashM M pick) n K :=
  ⟨rfl, rfl, (crashUpto_ok hok pick _ (Nat.le_refl _)).1.trans h.len, h.ops, Nat.zero_le _⟩
theorem Dx.ok {F0 X : Nat → Prop} {w0 w : World} {d : Nat} {M : DM} (h : Dx F0 X w0 w d M) : M.Ok := by
  obtain ⟨⟨F, h1, h2⟩, h3⟩ := h
  exact h1.1
theorem dx_waits {F0 X : Nat → Prop} {w0 w : World} {d : Nat} {M : DM} (h : Dx F0 X w0 w d M) : Calls Try.prog 18 #[.pointer (some ⟨d, 0, none⟩)] w fun e w' => e = .returned (.int .i64 (M.ws.length : Int)) ∧ w = w' := by
  obtain ⟨⟨F, h1, h2⟩, h3⟩ := h
  exact waits_at h1
theorem dx_read {F0 X : Nat → Prop} {w0 w : World} {d n K : Nat} {M : DM} (h : Dx F0 X w0 w d M) (hc : Calm M n K) (p : Nat) (hp : p < n) : Calls Try.prog 17 #[.pointer (some ⟨d, 0, none⟩), .int .i64 p] w fun e w' =>
    ∃ b, e = .returned (.tuple #[.slice (some ⟨b, 0, none⟩) 256 256, .int .i64 0]) ∧ w.heap.size ≤ b ∧ Blk w' b (u8s (shownM M p)) 68 ∧ Old w w' := by
  obtain ⟨⟨F, h1, h2⟩, h3⟩ := h
  exact read_yes h1 p (hc.atE p hp)
theorem Bs.inblk {w : World} {A : Option Addr} {n c : Nat} {l : List Int} (h : Bs w (.slice A n c) l) (hl : l ≠ []) (k : Nat) (hk : (Value.slice A n c).ownBlock = some k) : k < w.heap.size := by
  obtain ⟨A', c', e, _, h⟩ := h
  injection e with e1 e2 e3
  subst e1 e2 e3
  rcases h with h | ⟨b, o, rfl, hr⟩
  · exact absurd h hl
  · simp [Value.ownBlock] at hk
    subst hk
    exact rangeAt_lt hr (by simpa [u8s] using hl)
end Go.Proofs.Ytkcechpaeilaeaa
