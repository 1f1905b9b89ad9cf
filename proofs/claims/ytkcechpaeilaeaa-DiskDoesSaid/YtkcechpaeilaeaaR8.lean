/- Two devices beside each other: the program's, and the reference's. -/
import Derived.Test.YtkcechpaeilaeaaR7
import Derived.Test.YtkcechpaeilaeaaS1
namespace Go.Proofs.Ytkcechpaeilaeaa
open Go.RowKit
set_option linter.unusedVariables false
set_option linter.unusedSimpArgs false
/-- Both devices are new since w0, share nothing, and are apart from X. -/
def Tw (w0 wr : World) (d r : Nat) (M N : DM) (X : Nat → Prop) : Prop :=
  ∃ F G, DiskAt wr d M F ∧ RefAt wr r N G ∧ (∀ k, F k → w0.heap.size ≤ k ∧ ¬ X k) ∧ (∀ k, G k → w0.heap.size ≤ k ∧ ¬ F k ∧ ¬ X k) ∧ (∀ k, X k → w0.heap.size ≤ k ∧ k < wr.heap.size) ∧ Old w0 wr
def Non (k : Nat) : Prop := False
/-- The blocks X are as they were. -/
def KeepX (X : Nat → Prop) (w w' : World) : Prop := ∀ k, X k → w'.heap[k]? = w.heap[k]?
theorem KeepX.trans {X : Nat → Prop} {a b c : World} (h : KeepX X a b) (k : KeepX X b c) : KeepX X a c := fun x hx => (k x hx).trans (h x hx)
theorem KeepX.sub {X Y : Nat → Prop} {a b : World} (h : KeepX Y a b) (hs : ∀ k, X k → Y k) : KeepX X a b := fun x hx => h x (hs x hx)
section
variable {w0 w w' : World} {d r : Nat} {M N : DM} {X Y : Nat → Prop}
theorem Tw.keepOld (h : Tw w0 w d r M N X) (k : Old w w') : KeepX X w w' := by
  obtain ⟨F, G, h1, h2, h3, h4, h5, h6⟩ := h
  exact fun x hx => k.block x (h5 x hx).2 id
theorem Tw.keepKp (h : Tw w0 w d r M N X) {S : Nat → Prop} (k : Kp S w w') (hS : ∀ x, X x → ¬ S x) : KeepX X w w' := by
  obtain ⟨F, G, h1, h2, h3, h4, h5, h6⟩ := h
  exact fun x hx => k.block x (h5 x hx).2 (hS x hx)
theorem Tw.ltX (h : Tw w0 w d r M N X) {k : Nat} (hk : X k) : k < w.heap.size := by
  obtain ⟨F, G, h1, h2, h3, h4, h5, h6⟩ := h
  exact (h5 k hk).2
theorem Tw.since (h : Tw w0 w d r M N X) : Old w0 w := by
  obtain ⟨F, G, h1, h2, h3, h4, h5, h6⟩ := h
  exact h6
theorem Tw.ok (h : Tw w0 w d r M N X) : M.Ok := by
  obtain ⟨F, G, h1, h2, h3, h4, h5, h6⟩ := h
  exact h1.1
theorem Tw.old (h : Tw w0 w d r M N X) (k : Old w w') : Tw w0 w' d r M N X := by
  obtain ⟨F, G, h1, h2, h3, h4, h5, h6⟩ := h
  exact ⟨F, G, h1.keep k (fun _ _ => id), h2.keep k (fun _ _ => id), h3, h4, fun b hb => ⟨(h5 b hb).1, Nat.lt_of_lt_of_le (h5 b hb).2 k.size⟩, h6.trans k⟩
/-- Only X was written. -/
theorem Tw.wrote (h : Tw w0 w d r M N X) (k : Kp X w w') : Tw w0 w' d r M N X := by
  obtain ⟨F, G, h1, h2, h3, h4, h5, h6⟩ := h
  exact ⟨F, G, h1.keep k (fun b hb => (h3 b hb).2), h2.keep k (fun b hb => (h4 b hb).2.2), h3, h4, fun b hb => ⟨(h5 b hb).1, Nat.lt_of_lt_of_le (h5 b hb).2 k.size⟩, h6.andThen k (fun i hi hx => by have := (h5 i hx).1; omega)⟩
/-- Blocks that are new since are apart too. -/
theorem Tw.fence (h : Tw w0 w d r M N X) (k : Old w w') (hY : ∀ b, Y b → X b ∨ (w.heap.size ≤ b ∧ b < w'.heap.size)) : Tw w0 w' d r M N Y := by
  obtain ⟨F, G, h1, h2, h3, h4, h5, h6⟩ := h
  have hs := h6.size
  refine ⟨F, G, h1.keep k (fun _ _ => id), h2.keep k (fun _ _ => id), fun b hb => ⟨(h3 b hb).1, fun hy => ?_⟩, fun b hb => ⟨(h4 b hb).1, (h4 b hb).2.1, fun hy => ?_⟩, fun b hb => ?_, h6.trans k⟩
  · rcases hY b hy with h | h
    · exact (h3 b hb).2 h
    · have := h1.lt b hb; omega
  · rcases hY b hy with h | h
    · exact (h4 b hb).2.2 h
    · have := h2.lt b hb; omega
  · rcases hY b hb with h | h
    · exact ⟨(h5 b h).1, Nat.lt_of_lt_of_le (h5 b h).2 k.size⟩
    · exact ⟨by omega, h.2⟩
theorem Tw.sub (h : Tw w0 w d r M N X) (hY : ∀ b, Y b → X b) : Tw w0 w d r M N Y := h.fence (Kp.refl _ _) (fun b hb => .inl (hY b hb))
/-- A step of the program's device. -/
theorem tw_d {f : FuncId} {args : Array Value} {P : Ending → Prop} {M' : DM} (h : Tw w0 w d r M N X) (hop : ∀ F, DiskAt w d M F → (∀ k, F k → w0.heap.size ≤ k ∧ ¬ X k) → Calls Try.prog f args w fun e w' => P e ∧ (∃ F', DiskAt w' d M' F' ∧ ∀ k, F' k → F k ∨ w.heap.size ≤ k) ∧ Kp F w w') :
    Calls Try.prog f args w fun e w' => P e ∧ Tw w0 w' d r M' N X ∧ KeepX X w w' := by
  obtain ⟨F, G, h1, h2, h3, h4, h5, h6⟩ := h
  refine (hop F h1 h3).mono ?_
  rintro e w' ⟨hP, ⟨F', h7, h8⟩, h9⟩
  have hs := h6.size
  refine ⟨hP, ⟨F', G, h7, h2.keep h9 (fun k hk => (h4 k hk).2.1), fun k hk => ?_, fun k hk => ⟨(h4 k hk).1, fun hf => ?_, (h4 k hk).2.2⟩, fun b hb => ⟨(h5 b hb).1, Nat.lt_of_lt_of_le (h5 b hb).2 h9.size⟩, h6.andThen h9 (fun i hi hf => by have := (h3 i hf).1; omega)⟩, fun k hk => h9.block k (h5 k hk).2 (fun hf => (h3 k hf).2 hk)⟩
  · rcases h8 k hk with h | h
    · exact h3 k h
    · exact ⟨by omega, fun hx => by have := (h5 k hx).2; omega⟩
  · rcases h8 k hf with h | h
    · exact (h4 k hk).2.1 h
    · have := h2.lt k hk; omega
/-- A step of the reference's device. -/
theorem tw_r {f : FuncId} {args : Array Value} {P : Ending → Prop} {N' : DM} (h : Tw w0 w d r M N X) (hop : ∀ G, RefAt w r N G → (∀ k, G k → w0.heap.size ≤ k ∧ ¬ X k) → Calls Try.prog f args w fun e w' => P e ∧ (∃ G', RefAt w' r N' G' ∧ ∀ k, G' k → G k ∨ w.heap.size ≤ k) ∧ Kp G w w') :
    Calls Try.prog f args w fun e w' => P e ∧ Tw w0 w' d r M N' X ∧ KeepX X w w' := by
  obtain ⟨F, G, h1, h2, h3, h4, h5, h6⟩ := h
  refine (hop G h2 (fun k hk => ⟨(h4 k hk).1, (h4 k hk).2.2⟩)).mono ?_
  rintro e w' ⟨hP, ⟨G', h7, h8⟩, h9⟩
  have hs := h6.size
  refine ⟨hP, ⟨F, G', h1.keep h9 (fun k hk hg => (h4 k hg).2.1 hk), h7, h3, fun k hk => ?_, fun b hb => ⟨(h5 b hb).1, Nat.lt_of_lt_of_le (h5 b hb).2 h9.size⟩, h6.andThen h9 (fun i hi hg => by have := (h4 i hg).1; omega)⟩, fun k hk => h9.block k (h5 k hk).2 (fun hg => (h4 k hg).2.2 hk)⟩
  rcases h8 k hk with h | h
  · exact h4 k h
  · exact ⟨by omega, fun hf => by have := h1.lt k hf; omega, fun hx => by have := (h5 k hx).2; omega⟩
/-- The program's device is only looked at. -/
theorem tw_dsee {f : FuncId} {args : Array Value} {P : Ending → World → Prop} (h : Tw w0 w d r M N X) (hop : ∀ F, DiskAt w d M F → Calls Try.prog f args w P) : Calls Try.prog f args w P := by
  obtain ⟨F, G, h1, h2, h3, h4, h5, h6⟩ := h
  exact hop F h1
theorem tw_rsee {f : FuncId} {args : Array Value} {P : Ending → World → Prop} (h : Tw w0 w d r M N X) (hop : ∀ G, RefAt w r N G → Calls Try.prog f args w P) : Calls Try.prog f args w P := by
  obtain ⟨F, G, h1, h2, h3, h4, h5, h6⟩ := h
  exact hop G h2

/-- The answer of a write, and the device behind it. -/
def dwE (M : DM) (p n : Int) : Int := if atE M p n = 0 then writeE M else atE M p n
def dwM (M : DM) (p : Int) (l : List Int) : DM := if atE M p l.length = 0 then writeM M p.toNat l else M
theorem atE_zero {M : DM} {p n : Int} (h : atE M p n = 0) : 0 ≤ p ∧ p < M.st.length ∧ n = 256 := by
  unfold atE at h
  split at h
  · cases h
  · omega
theorem tw_dwrite {v : Value} {l : List Int} (h : Tw w0 w d r M N X) (p : Int) (hv : Bs w v l) (hX : l ≠ [] → ∀ k, v.ownBlock = some k → X k ∨ k < w0.heap.size) (hops : M.ops < 1073741824) (hfew : M.ws.length < 1073741824) :
    Calls Try.prog 12 #[.pointer (some ⟨d, 0, none⟩), .int .i64 p, v] w fun e w' => e = .returned (.int .i64 (dwE M p l.length)) ∧ Tw w0 w' d r (dwM M p l) N X ∧ KeepX X w w' := by
  by_cases hz : atE M p l.length = 0
  · obtain ⟨hp0, hp1, hl⟩ := atE_zero hz
    have hl' : l.length = 256 := by omega
    obtain ⟨q, rfl⟩ : ∃ q : Nat, p = q := ⟨p.toNat, by omega⟩
    have e1 : dwE M q l.length = writeE M := by unfold dwE; rw [if_pos hz]
    have e2 : dwM M q l = writeM M q l := by unfold dwM; rw [if_pos hz]; rfl
    rw [e1, e2]
    obtain ⟨A, c, rfl, hc, hr⟩ := hv
    have hne : l ≠ [] := by intro e; rw [e] at hl'; simp at hl'
    rcases hr with hr | ⟨b, o, rfl, hr⟩
    · exact absurd hr hne
    have hz2 : atE M q 256 = 0 := by rw [hl'] at hz; exact hz
    rw [hl']
    refine tw_d h (fun F hF hFX => ?_)
    refine (write_yes hF q b o c l hl' hr (fun hf => ?_) hz2 hops hfew)
    rcases hX hne b rfl with h | h
    · exact (hFX b hf).2 h
    · have := (hFX b hf).1; omega
  · have e1 : dwE M p l.length = atE M p l.length := by unfold dwE; rw [if_neg hz]
    have e2 : dwM M p l = M := by unfold dwM; rw [if_neg hz]
    rw [e1, e2]
    obtain ⟨A, c, rfl, hc, hr⟩ := hv
    refine tw_d h (fun F hF hFX => ?_)
    refine (write_no hF p A l.length c (by simpa using hz)).mono ?_
    rintro e w' ⟨rfl, rfl⟩
    exact ⟨rfl, ⟨F, hF, fun k => .inl⟩, Kp.refl _ _⟩
theorem tw_rwrite {v : Value} {l : List Int} (h : Tw w0 w d r M N X) (p : Int) (hv : Bs w v l) (hops : N.ops < 1073741824) (hfew : N.ws.length < 1073741824) :
    Calls Try.prog 42 #[.pointer (some ⟨r, 0, none⟩), .int .i64 p, v] w fun e w' => e = .returned (.int .i64 (dwE N p l.length)) ∧ Tw w0 w' d r M (dwM N p l) X ∧ KeepX X w w' := by
  by_cases hz : atE N p l.length = 0
  · obtain ⟨hp0, hp1, hl⟩ := atE_zero hz
    have hl' : l.length = 256 := by omega
    obtain ⟨q, rfl⟩ : ∃ q : Nat, p = q := ⟨p.toNat, by omega⟩
    have e1 : dwE N q l.length = writeE N := by unfold dwE; rw [if_pos hz]
    have e2 : dwM N q l = writeM N q l := by unfold dwM; rw [if_pos hz]; rfl
    rw [e1, e2]
    have hz2 : atE N q 256 = 0 := by rw [hl'] at hz; exact hz
    exact tw_r h (fun G hG hGX => rwrite_yes hG q hv hl' hz2 hops hfew)
  · have e1 : dwE N p l.length = atE N p l.length := by unfold dwE; rw [if_neg hz]
    have e2 : dwM N p l = N := by unfold dwM; rw [if_neg hz]
    rw [e1, e2]
    obtain ⟨A, c, rfl, hc, hr⟩ := hv
    refine tw_r h (fun G hG hGX => ?_)
    refine (rwrite_no hG p A l.length c (by simpa using hz)).mono ?_
    rintro e w' ⟨rfl, rfl⟩
    exact ⟨rfl, ⟨G, hG, fun k => .inl⟩, Kp.refl _ _⟩
theorem tw_dsync (h : Tw w0 w d r M N X) (hops : M.ops < 1073741824) : Calls Try.prog 16 #[.pointer (some ⟨d, 0, none⟩)] w fun e w' => e = .returned (.int .i64 (syncE M)) ∧ Tw w0 w' d r (syncM M) N X ∧ KeepX X w w' :=
  tw_d h (fun F hF hFX => (sync_at hF hops).mono (fun e w' ⟨a, b, c⟩ => ⟨a, ⟨F, b, fun k => .inl⟩, c⟩))
theorem tw_rsync (h : Tw w0 w d r M N X) (hops : N.ops < 1073741824) : Calls Try.prog 43 #[.pointer (some ⟨r, 0, none⟩)] w fun e w' => e = .returned (.int .i64 (syncE N)) ∧ Tw w0 w' d r M (syncM N) X ∧ KeepX X w w' :=
  tw_r h (fun F hF hFX => (rsync_at hF hops).mono (fun e w' ⟨a, b, c⟩ => ⟨a, ⟨F, b, fun k => .inl⟩, c⟩))
theorem RefAt.own (h : RefAt w r N X) : X r := by
  obtain ⟨hok, sv, wv, ss, ws, hp⟩ := h
  exact hp.gr
theorem tw_darm (h : Tw w0 w d r M N X) (n : Int) (hn : n ≤ 9223372036854775807) : Calls Try.prog 25 #[.pointer (some ⟨d, 0, none⟩), .int .i64 n] w fun e w' => e = .returned (.int .i64 (armE M n)) ∧ Tw w0 w' d r (armM M n) N X ∧ KeepX X w w' :=
  tw_d h (fun F hF hFX => (arm_at hF n hn).mono (fun e w' ⟨a, b, c⟩ => ⟨a, ⟨F, b, fun k => .inl⟩, c.mono (fun k _ e => e ▸ hF.own)⟩))
theorem tw_rarm (h : Tw w0 w d r M N X) (n : Int) (hn : n ≤ 9223372036854775807) : Calls Try.prog 44 #[.pointer (some ⟨r, 0, none⟩), .int .i64 n] w fun e w' => e = .returned (.int .i64 (armE N n)) ∧ Tw w0 w' d r M (armM N n) X ∧ KeepX X w w' :=
  tw_r h (fun F hF hFX => (rarm_at hF n hn).mono (fun e w' ⟨a, b, c⟩ => ⟨a, ⟨F, b, fun k => .inl⟩, c.mono (fun k _ e => e ▸ hF.own)⟩))
theorem tw_dcalm (h : Tw w0 w d r M N X) : Calls Try.prog 26 #[.pointer (some ⟨d, 0, none⟩)] w fun e w' => e = .returned (.int .i64 (pwrE M)) ∧ Tw w0 w' d r (calmM M) N X ∧ KeepX X w w' :=
  tw_d h (fun F hF hFX => (calm_at hF).mono (fun e w' ⟨a, b, c⟩ => ⟨a, ⟨F, b, fun k => .inl⟩, c.mono (fun k _ e => e ▸ hF.own)⟩))
theorem tw_rcalm (h : Tw w0 w d r M N X) : Calls Try.prog 45 #[.pointer (some ⟨r, 0, none⟩)] w fun e w' => e = .returned (.int .i64 (pwrE N)) ∧ Tw w0 w' d r M (calmM N) X ∧ KeepX X w w' :=
  tw_r h (fun F hF hFX => (rcalm_at hF).mono (fun e w' ⟨a, b, c⟩ => ⟨a, ⟨F, b, fun k => .inl⟩, c.mono (fun k _ e => e ▸ hF.own)⟩))
theorem tw_dcrash {v : Value} {pick : List Int} (h : Tw w0 w d r M N X) (hv : Bs w v pick) (hb : Bytes pick) (hX : pick ≠ [] → ∀ k, v.ownBlock = some k → X k ∨ k < w0.heap.size) : Calls Try.prog 13 #[.pointer (some ⟨d, 0, none⟩), v] w fun e w' => e = .returned (.int .i64 0) ∧ Tw w0 w' d r (crashM M pick) N X ∧ KeepX X w w' :=
  tw_d h (fun F hF hFX => (crash_gen hF hv hb (fun hne k hk hf => by
    rcases hX hne k hk with h | h
    · exact (hFX k hf).2 h
    · have := (hFX k hf).1; omega)).mono (fun e w' ⟨a, b, c⟩ => ⟨a, ⟨F, b, fun k => .inl⟩, c⟩))
theorem tw_rcrash {v : Value} {pick : List Int} (h : Tw w0 w d r M N X) (hv : Bs w v pick) (hb : Bytes pick) (hX : pick ≠ [] → ∀ k, v.ownBlock = some k → X k ∨ k < w0.heap.size) : Calls Try.prog 46 #[.pointer (some ⟨r, 0, none⟩), v] w fun e w' => e = .returned (.tuple #[]) ∧ Tw w0 w' d r M (crashM N pick) X ∧ KeepX X w w' :=
  tw_r h (fun F hF hFX => rcrash_at hF hv hb (fun hne k hk hf => by
    rcases hX hne k hk with h | h
    · exact (hFX k hf).2 h
    · have := (hFX k hf).1; omega))
def dlE (M : DM) (n : Nat) : Int := if n = M.st.length * 256 then 0 else 1
def dlM (M : DM) (img : List Int) : DM := if img.length = M.st.length * 256 then loadM M img else M
theorem tw_dload {v : Value} {img : List Int} (h : Tw w0 w d r M N X) (hv : Bs w v img) (hX : ∀ k, v.ownBlock = some k → X k) : Calls Try.prog 27 #[.pointer (some ⟨d, 0, none⟩), v] w fun e w' => e = .returned (.int .i64 (dlE M img.length)) ∧ Tw w0 w' d r (dlM M img) N X ∧ KeepX X w w' := by
  by_cases hl : img.length = M.st.length * 256
  · have e1 : dlE M img.length = 0 := by unfold dlE; rw [if_pos hl]
    have e2 : dlM M img = loadM M img := by unfold dlM; rw [if_pos hl]
    rw [e1, e2]
    exact tw_d h (fun F hF hFX => (load_yes hF hv (fun k hk hf => (hFX k hf).2 (hX k hk)) hl).mono (fun e w' ⟨a, b, c⟩ => ⟨a, ⟨F, b, fun k => .inl⟩, c⟩))
  · have e1 : dlE M img.length = 1 := by unfold dlE; rw [if_neg hl]
    have e2 : dlM M img = M := by unfold dlM; rw [if_neg hl]
    rw [e1, e2]
    obtain ⟨A, c, rfl, hc, hr⟩ := hv
    exact tw_d h (fun F hF hFX => (load_no hF A _ c hl).mono (fun e w' ⟨a, b⟩ => ⟨a, ⟨F, b ▸ hF, fun k => .inl⟩, b ▸ Kp.refl _ _⟩))
theorem tw_rload {v : Value} {img : List Int} (h : Tw w0 w d r M N X) (hv : Bs w v img) (hX : ∀ k, v.ownBlock = some k → X k) : Calls Try.prog 48 #[.pointer (some ⟨r, 0, none⟩), v] w fun e w' => e = .returned (.int .i64 (dlE N img.length)) ∧ Tw w0 w' d r M (dlM N img) X ∧ KeepX X w w' := by
  by_cases hl : img.length = N.st.length * 256
  · have e1 : dlE N img.length = 0 := by unfold dlE; rw [if_pos hl]
    have e2 : dlM N img = loadM N img := by unfold dlM; rw [if_pos hl]
    rw [e1, e2]
    exact tw_r h (fun F hF hFX => rload_yes hF hv (fun k hk hf => (hFX k hf).2 (hX k hk)) hl)
  · have e1 : dlE N img.length = 1 := by unfold dlE; rw [if_neg hl]
    have e2 : dlM N img = N := by unfold dlM; rw [if_neg hl]
    rw [e1, e2]
    obtain ⟨A, c, rfl, hc, hr⟩ := hv
    exact tw_r h (fun F hF hFX => (rload_no hF A _ c hl).mono (fun e w' ⟨a, b⟩ => ⟨a, ⟨F, b ▸ hF, fun k => .inl⟩, b ▸ Kp.refl _ _⟩))
end
end Go.Proofs.Ytkcechpaeilaeaa
