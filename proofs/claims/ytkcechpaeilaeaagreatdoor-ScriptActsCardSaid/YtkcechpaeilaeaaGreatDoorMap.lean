/- Maps whose keys are ints: what their block holds, and what a look-up, a store, a clear and a loop over them do. Nothing here names the program. -/
import Derived.Test.YtkcechpaeilaeaaGreatDoorLib
import Derived.Maps.RangeRun
import Derived.Maps.OwnOps
namespace Go.Proofs.YtkcechpaeilaeaaGreatDoor
open Go.RowKit
open Go.ChangeMaps (setBlock)
set_option linter.unusedSimpArgs false

/-- An entry of a map with int keys. -/
def ent (x : Int × Value × Nat) : MapEntry := { key := .int .i64 x.1, val := x.2.1, born := x.2.2 }
def pr (x : Int × Value × Nat) : Int × Value := (x.1, x.2.1)

/-- Block m is a map with int keys that holds just L, in this order. -/
def IMap (w : World) (m : Nat) (L : List (Int × Value)) : Prop :=
  ∃ (t : List (Int × Value × Nat)) (clk : Nat), w.heap[m]? = some (.map (t.map ent).toArray clk) ∧ t.map pr = L ∧ (L.map (·.1)).Nodup ∧ (t.map (·.2.2)).Nodup ∧ ∀ x ∈ t, x.2.2 < clk

/-- What L has at a key. -/
def mget (L : List (Int × Value)) (k : Int) : Option Value := (L.find? (fun x => k == x.1)).map (·.2)
/-- L with a key put. -/
def mput : List (Int × Value) → Int → Value → List (Int × Value)
  | [], k, v => [(k, v)]
  | x :: r, k, v => if k = x.1 then (k, v) :: r else x :: mput r k v

theorem IMap.keep {w w' : World} {m : Nat} {L : List (Int × Value)} (h : IMap w m L) (hb : w'.heap[m]? = w.heap[m]?) : IMap w' m L := by
  obtain ⟨t, clk, h1, h2⟩ := h
  exact ⟨t, clk, hb.trans h1, h2⟩
theorem IMap.lt {w : World} {m : Nat} {L : List (Int × Value)} (h : IMap w m L) : m < w.heap.size := by
  obtain ⟨t, clk, h1, h2⟩ := h
  exact blk_lt h1
theorem IMap.made (w : World) : IMap (w.alloc (.map #[] 0)) w.heap.size [] := ⟨[], 0, by rw [_root_.Go.heap_alloc_new]; rfl, rfl, by simp, by simp, by simp⟩
theorem mget_nil (k : Int) : mget [] k = none := rfl
theorem mget_cons (x : Int × Value) (r : List (Int × Value)) (k : Int) : mget (x :: r) k = if k = x.1 then some x.2 else mget r k := by
  unfold mget
  rw [List.find?_cons]
  by_cases h : k = x.1
  · subst h; simp
  · have : (k == x.1) = false := by simpa using h
    rw [this, if_neg h]
theorem mget_mput (L : List (Int × Value)) (k : Int) (v : Value) (j : Int) : mget (mput L k v) j = if j = k then some v else mget L j := by
  induction L with
  | nil => rw [mput, mget_cons]
  | cons x r ih =>
    unfold mput
    by_cases h : k = x.1
    · rw [if_pos h, mget_cons, mget_cons, ← h]
      by_cases hj : j = k
      · rw [if_pos hj, if_pos hj]
      · rw [if_neg hj, if_neg hj, if_neg hj]
    · rw [if_neg h, mget_cons, ih, mget_cons]
      by_cases hj : j = k
      · rw [if_pos hj, if_pos hj, if_neg (by rw [hj]; exact h)]
      · rw [if_neg hj, if_neg hj]
theorem mput_keys (L : List (Int × Value)) (k : Int) (v : Value) (j : Int) : j ∈ (mput L k v).map (·.1) ↔ j = k ∨ j ∈ L.map (·.1) := by
  induction L with
  | nil => simp [mput]
  | cons x r ih =>
    unfold mput
    by_cases h : k = x.1
    · rw [if_pos h]; simp [h]
    · rw [if_neg h, List.map_cons, List.mem_cons, ih, List.map_cons, List.mem_cons]
      constructor
      · rintro (h | h | h)
        · exact .inr (.inl h)
        · exact .inl h
        · exact .inr (.inr h)
      · rintro (h | h | h)
        · exact .inr (.inl h)
        · exact .inl h
        · exact .inr (.inr h)
theorem mput_nodup (L : List (Int × Value)) (k : Int) (v : Value) (h : (L.map (·.1)).Nodup) : ((mput L k v).map (·.1)).Nodup := by
  induction L with
  | nil => simp [mput]
  | cons x r ih =>
    unfold mput
    rw [List.map_cons, List.nodup_cons] at h
    by_cases hk : k = x.1
    · rw [if_pos hk, List.map_cons, List.nodup_cons]; rw [hk]; exact h
    · rw [if_neg hk, List.map_cons, List.nodup_cons, mput_keys]
      refine ⟨?_, ih h.2⟩
      rintro (e | e)
      · exact hk e.symm
      · exact h.1 e
theorem mget_mem {L : List (Int × Value)} (hn : (L.map (·.1)).Nodup) {k : Int} {v : Value} : mget L k = some v ↔ (k, v) ∈ L := by
  induction L with
  | nil => simp [mget_nil]
  | cons x r ih =>
    rw [List.map_cons, List.nodup_cons] at hn
    rw [mget_cons, List.mem_cons]
    by_cases h : k = x.1
    · rw [if_pos h]
      constructor
      · intro e; left; injection e with e; rw [h, ← e]
      · rintro (e | e)
        · rw [← e]
        · exact absurd (List.mem_map.2 ⟨_, e, h⟩) hn.1
    · rw [if_neg h, ih hn.2]
      constructor
      · exact .inr
      · rintro (e | e)
        · exact absurd (by rw [← e]) h
        · exact e

/-! ### the runs -/
def mfind (k : Int) : List (Int × Value × Nat) → Nat → Option (Nat × Value)
  | [], _ => none
  | x :: r, i => if k = x.1 then some (i, x.2.1) else mfind k r (i + 1)
theorem findNow_int (q : IntKind) (k : Int) (t : List (Int × Value × Nat)) : ∀ i, Instr.findNow (.int q) (.int .i64 k) (t.map ent) i = some (mfind k t i) := by
  induction t with
  | nil => intro i; rfl
  | cons x r ih =>
    intro i
    simp only [List.map_cons, Instr.findNow, ent, Instr.sameNow, mfind]
    by_cases h : k = x.1
    · simp [h]
    · have : (k == x.1) = false := by simpa using h
      rw [if_neg h]; simp only [if_true, this]; exact ih (i + 1)
theorem mfind_get (k : Int) (t : List (Int × Value × Nat)) : ∀ i, (mfind k t i).map (·.2) = mget (t.map pr) k := by
  induction t with
  | nil => intro i; rfl
  | cons x r ih =>
    intro i
    rw [List.map_cons, mget_cons]
    unfold mfind
    by_cases h : k = x.1
    · rw [if_pos h, if_pos (by exact h)]; rfl
    · rw [if_neg h, if_neg (by exact h)]; exact ih _
variable {P : Program}
theorem run_findKey {kt : TypeId} (hk : P.underlying kt = some (.int .i64)) (k : Int) (t : List (Int × Value × Nat)) (w : World) :
    (Instr.findKey kt (.int .i64 k) (t.map ent)).run P w = .ok (mfind k t 0) w := by
  unfold Instr.findKey
  rw [Sem.run_bind, run_underlying hk]
  simp only [Result.andThen_ok, findNow_int]
  rfl
theorem run_checkKey {kt : TypeId} (hk : P.underlying kt = some (.int .i64)) (b : Bool) (n : Nat) (k : Int) (w : World) : (Instr.checkKey b (n + 1) kt (.int .i64 k)).run P w = .ok () w := by
  unfold Instr.checkKey
  rw [Sem.run_bind, run_underlying hk]
  rfl
theorem run_getMap {w : World} {m : Nat} {es : Array MapEntry} {clk : Nat} (h : w.heap[m]? = some (.map es clk)) : (getObj m).run P w = .ok (.map es clk) w := by
  simp [getObj, Sem.run, h]

/-- A look-up with 'ok', and one without. -/
theorem IMap.run_lookup {w : World} {m : Nat} {L : List (Int × Value)} (h : IMap w m L) {t kt e : TypeId} (ht : P.underlying t = some (.map kt e)) (hk : P.underlying kt = some (.int .i64)) {z : Value}
    (hz : (P.info? e).map (·.zero) = some (some z)) (k : Int) (b : Bool) :
    (Instr.lookup t (.map (some m)) (.int .i64 k) b).run P w = .ok (if b then .tuple #[(mget L k).getD z, .bool (mget L k).isSome] else (mget L k).getD z) w := by
  obtain ⟨tt, clk, hb, hL, -⟩ := h
  have hzv : (zeroValue e).run P w = .ok z w := by
    cases hi : P.info? e with
    | none => rw [hi] at hz; simp at hz
    | some i => rw [hi] at hz; simp at hz; simp [zeroValue, typeInfo, hi, hz]
  unfold Instr.lookup
  rw [Sem.run_bind, run_underlying ht]
  simp only [Result.andThen_ok, Sem.run_bind, run_getMap hb, Sem.run_pure, run_checkKey hk]
  rw [run_findKey hk]
  simp only [Result.andThen_ok]
  have hg := mfind_get k tt 0
  rw [hL] at hg
  cases hf : mfind k tt 0 with
  | none =>
    rw [hf] at hg
    simp only [Option.map_none] at hg
    simp only [Sem.run_bind, hzv, Result.andThen_ok, Sem.run_pure, ← hg]
    rfl
  | some x =>
    rw [hf] at hg
    simp only [Option.map_some] at hg
    simp only [Result.andThen_ok, Sem.run_pure, ← hg]
    rfl

theorem mfind_put (k : Int) (v : Value) (t : List (Int × Value × Nat)) (i0 : Nat) : ∀ j, match mfind k t j with
    | some (i, _) => j ≤ i ∧ i < j + t.length ∧ (t[i - j]?).map (·.1) = some k ∧ ((t.modify (i - j) fun x => (k, v, x.2.2)).map pr = mput (t.map pr) k v)
    | none => k ∉ t.map (·.1) ∧ (t ++ [(k, v, i0)]).map pr = mput (t.map pr) k v := by
  induction t with
  | nil => intro j; simp [mfind, mput, pr]
  | cons x r ih =>
    intro j
    unfold mfind
    by_cases h : k = x.1
    · rw [if_pos h]
      simp only
      refine ⟨Nat.le_refl _, by simp, by simp [h], ?_⟩
      rw [Nat.sub_self]
      simp only [List.modify_cons, if_true, List.map_cons, mput]
      rw [if_pos (by rw [h]; rfl)]
      rfl
    · rw [if_neg h]
      have ih' := ih (j + 1)
      cases hf : mfind k r (j + 1) with
      | none =>
        rw [hf] at ih'
        simp only at ih' ⊢
        refine ⟨by simp only [List.map_cons, List.mem_cons, not_or]; exact ⟨h, ih'.1⟩, ?_⟩
        simp only [List.cons_append, List.map_cons, mput]
        rw [if_neg (by exact h), ← ih'.2]
      | some y =>
        rw [hf] at ih'
        simp only at ih' ⊢
        obtain ⟨h1, h2, h3, h4⟩ := ih'
        have e1 : y.1 - j = (y.1 - (j + 1)) + 1 := by omega
        refine ⟨by omega, by simp; omega, by rw [e1]; simpa using h3, ?_⟩
        rw [e1]
        simp only [List.modify_succ_cons, List.map_cons, mput]
        rw [if_neg (by exact h), h4]

theorem list_modify_ent (t : List (Int × Value × Nat)) (i : Nat) (k : Int) (v : Value) : ((t.map ent).toArray.modify i fun e => { e with key := .int .i64 k, val := v }) = ((t.modify i fun x => (k, v, x.2.2)).map ent).toArray := by
  apply Array.ext'
  simp only [Array.toList_modify, List.toList_toArray]
  apply List.ext_getElem?
  intro j
  simp only [List.getElem?_modify, List.getElem?_map]
  by_cases h : i = j
  · subst h
    cases t[i]? <;> simp [ent]
  · simp [h]

/-- A store. -/
theorem IMap.run_update {w : World} {m : Nat} {L : List (Int × Value)} (h : IMap w m L) {t kt e : TypeId} (ht : P.underlying t = some (.map kt e)) (hk : P.underlying kt = some (.int .i64)) (k : Int) (v : Value) :
    ∃ w', (Instr.mapUpdate t (.map (some m)) (.int .i64 k) v).run P w = .ok () w' ∧ IMap w' m (mput L k v) ∧ Kp (· = m) w w' := by
  obtain ⟨tt, clk, hb, hL, hn, hnb, hlt⟩ := h
  have hp := mfind_put k v tt clk 0
  have hset : ∀ o : Obj, (setObj m o).run P w = .ok () (setBlock w m o) := fun o => by simp [setObj, Sem.run, hb, setBlock]
  have hm := blk_lt hb
  have hgot : ∀ o : Obj, (setBlock w m o).heap[m]? = some o := fun o => by
    show (w.heap.setIfInBounds m o)[m]? = _
    rw [Array.getElem?_setIfInBounds_self_of_lt hm]
  have hkp : ∀ o : Obj, Kp (· = m) w (setBlock w m o) := fun o => (Kp.refl _ w).setObj m o (.inr rfl)
  unfold Instr.mapUpdate
  simp only [Sem.run_bind, run_underlying ht, Result.andThen_ok, run_getMap hb, run_checkKey hk]
  rw [run_findKey hk]
  simp only [Result.andThen_ok]
  cases hf : mfind k tt 0 with
  | none =>
    rw [hf] at hp
    simp only at hp
    simp only [hset]
    refine ⟨_, rfl, ⟨tt ++ [(k, v, clk)], clk + 1, ?_, ?_, ?_, ?_, ?_⟩, hkp _⟩
    · rw [hgot]; congr 2; simp [ent]
    · rw [hp.2, hL]
    · exact mput_nodup L k v hn
    · rw [List.map_append, List.nodup_append]
      refine ⟨hnb, by simp, ?_⟩
      intro a ha b hb'
      simp at hb'
      subst hb'
      obtain ⟨x, hx, rfl⟩ := List.mem_map.1 ha
      have := hlt x hx
      omega
    · intro x hx
      rcases List.mem_append.1 hx with hx | hx
      · have := hlt x hx; omega
      · simp at hx; subst hx; simp
  | some y =>
    rw [hf] at hp
    simp only [Nat.sub_zero, Nat.zero_add] at hp
    obtain ⟨_, h2, h3, h4⟩ := hp
    have hg : tt[y.1]? = some tt[y.1] := List.getElem?_eq_getElem h2
    have hk1 : tt[y.1].1 = k := by rw [hg] at h3; simpa using h3
    have hstay : (Instr.keyThatStays ((((tt.map ent).toArray)[y.1]?.map (·.key)).getD (.int .i64 k)) (.int .i64 k)).run P w = .ok (.int .i64 k) w := by
      have : ((((tt.map ent).toArray)[y.1]?.map (·.key)).getD (.int .i64 k)) = .int .i64 k := by simp [hg, ent, hk1]
      rw [this]
      simp [Instr.keyThatStays, Instr.sameBits]
    simp only [Sem.run_bind, hstay, Result.andThen_ok, hset]
    have hborn : (tt.modify y.1 fun x => (k, v, x.2.2)).map (·.2.2) = tt.map (·.2.2) := by
      apply List.ext_getElem?
      intro j
      simp only [List.getElem?_map, List.getElem?_modify]
      by_cases h : y.1 = j
      · subst h; simp [hg]
      · simp [h]
    refine ⟨_, rfl, ⟨tt.modify y.1 fun x => (k, v, x.2.2), clk, ?_, ?_, ?_, ?_, ?_⟩, hkp _⟩
    · rw [hgot, list_modify_ent]
    · rw [h4, hL]
    · exact mput_nodup L k v hn
    · rw [hborn]; exact hnb
    · intro x hx
      have : x.2.2 ∈ (tt.modify y.1 fun x => (k, v, x.2.2)).map (·.2.2) := List.mem_map.2 ⟨x, hx, rfl⟩
      rw [hborn] at this
      obtain ⟨z, hz, e⟩ := List.mem_map.1 this
      rw [← e]; exact hlt z hz

/-- 'clear'. -/
theorem IMap.run_clear {w : World} {m : Nat} {L : List (Int × Value)} (h : IMap w m L) {t ty kt e : TypeId} (ht : P.underlying t = some (.map kt e)) :
    ∃ w', (Builtin.clear_ #[t] ty #[.map (some m)]).run P w = .ok (.tuple #[]) w' ∧ IMap w' m [] ∧ Kp (· = m) w w' := by
  obtain ⟨tt, clk, hb, -⟩ := h
  have hm := blk_lt hb
  refine ⟨setBlock w m (.map #[] clk), ?_, ⟨[], clk, ?_, rfl, by simp, by simp, by simp⟩, (Kp.refl _ w).setObj m _ (.inr rfl)⟩
  · simp [Builtin.clear_, run_underlying ht, run_getMap hb, setObj, Sem.run, hb, setBlock]
  · show (w.heap.setIfInBounds m _)[m]? = _
    rw [Array.getElem?_setIfInBounds_self_of_lt hm]
    rfl
end Go.Proofs.YtkcechpaeilaeaaGreatDoor
