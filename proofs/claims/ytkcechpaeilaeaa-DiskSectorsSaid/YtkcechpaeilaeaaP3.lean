/- Plain law of DiskSectors: each sector is behind a crash all one byte, that of what was stable or of a write. -/
import Derived.Test.YtkcechpaeilaeaaP2
namespace Go.Proofs.Ytkcechpaeilaeaa
open Go.RowKit
set_option linter.unusedVariables false
set_option linter.unusedSimpArgs false

def secStep (M : DM) (x : OpM) : DM := if x.p < 0 ∨ 7 < x.p then M else writeM M x.p.toNat (pageOf x.b)
def secM (M : DM) (l : List OpM) : DM := l.foldl secStep M
theorem secM_take {M : DM} {l : List OpM} {k : Nat} (h : k < l.length) : secM M (l.take (k + 1)) = secStep (secM M (l.take k)) l[k] := by
  unfold secM
  rw [List.take_succ_eq_append_getElem h, List.foldl_append]
  rfl
/-- What a sector may be: the first byte of each. -/
def mayG (l : List OpM) (i : Nat) : List Int := 0 :: (l.filter fun x => x.p == ((i / 4 : Nat) : Int)).map fun x => (pageOf x.b).getD (i % 4 * 64) 0
theorem mayG_nil (i : Nat) : mayG [] i = [0] := rfl
theorem mayG_snoc (l : List OpM) (x : OpM) (i : Nat) : mayG (l ++ [x]) i = if x.p = ((i / 4 : Nat) : Int) then mayG l i ++ [(pageOf x.b).getD (i % 4 * 64) 0] else mayG l i := by
  unfold mayG
  rw [List.filter_append, List.filter_cons, List.filter_nil]
  by_cases h : x.p = ((i / 4 : Nat) : Int)
  · rw [if_pos h, if_pos (by simpa using h), List.map_append]
    rfl
  · rw [if_neg h, if_neg (by simpa using h), List.append_nil]
theorem mayG_sub (l : List OpM) (x : OpM) (i : Nat) {c : Int} (h : c ∈ mayG l i) : c ∈ mayG (l ++ [x]) i := by
  rw [mayG_snoc]
  split
  · exact List.mem_append_left _ h
  · exact h
theorem Calm.sec {M : DM} {K : Nat} (h : Calm M 8 K) (x : OpM) : Calm (secStep M x) 8 (K + 1) := by
  unfold secStep
  split
  · exact h.mono (by omega)
  · exact h.write _ _
theorem Calm.secs {M : DM} {K : Nat} (h : Calm M 8 K) (l : List OpM) : Calm (secM M l) 8 (K + l.length) := by
  induction l generalizing M K with
  | nil => exact h
  | cons x r ih => exact (ih (h.sec x)).mono (by simp; omega)
theorem pageOf_at (b : List Int) (s i : Nat) (hs : s < 4) (hi : i < 64) : (pageOf b)[s * 64 + i]? = some (b.getD s 0) := by
  unfold pageOf
  rw [pageUpto_get _ _ _ (by omega), if_pos (by omega), show (s * 64 + i) / 64 = s from by omega]
theorem pageOf_first (b : List Int) (s : Nat) (hs : s < 4) : (pageOf b).getD (s * 64) 0 = b.getD s 0 := by
  have := pageOf_at b s 0 hs (by omega)
  rw [Nat.add_zero] at this
  rw [List.getD_eq_getElem?_getD, this]
  rfl
/-- Each sector is all one byte of those that it may be. -/
def SecIn (l : List OpM) (p : Nat) (pg : List Int) : Prop := ∀ s, s < 4 → ∃ c, c ∈ mayG l (p * 4 + s) ∧ ∀ i, i < 64 → pg[s * 64 + i]? = some c
theorem SecIn.sub {l : List OpM} {p : Nat} {pg : List Int} (h : SecIn l p pg) (x : OpM) : SecIn (l ++ [x]) p pg := fun s hs => by
  obtain ⟨c, h1, h2⟩ := h s hs
  exact ⟨c, mayG_sub l x _ h1, h2⟩
theorem sec_ws {M : DM} {K : Nat} (hc : Calm M 8 K) (hw : M.ws = []) (r : List OpM) : (secM M r).st = M.st ∧ ∀ y ∈ (secM M r).ws, y.1 < 8 ∧ SecIn r y.1 y.2 := by
  generalize hn : r.length = n
  induction n generalizing r with
  | zero =>
    have : r = [] := List.eq_nil_of_length_eq_zero hn
    subst this
    exact ⟨rfl, fun y hy => by rw [show (secM M []).ws = M.ws from rfl, hw] at hy; simp at hy⟩
  | succ n ih =>
    obtain ⟨r', x, rfl⟩ : ∃ r' x, r = r' ++ [x] := ⟨r.dropLast, r.getLast (by intro e; simp [e] at hn), (List.dropLast_concat_getLast _).symm⟩
    obtain ⟨h1, h2⟩ := ih r' (by simpa using hn)
    have e : secM M (r' ++ [x]) = secStep (secM M r') x := by unfold secM; rw [List.foldl_append]; rfl
    rw [e]
    unfold secStep
    split
    · exact ⟨h1, fun y hy => ⟨(h2 y hy).1, (h2 y hy).2.sub x⟩⟩
    · rename_i hp
      rw [(hc.secs r').writeM_eq]
      refine ⟨h1, fun y hy => ?_⟩
      simp only [List.mem_append, List.mem_singleton] at hy
      rcases hy with hy | rfl
      · exact ⟨(h2 y hy).1, (h2 y hy).2.sub x⟩
      · refine ⟨by simp only; omega, fun s hs => ⟨x.b.getD s 0, ?_, fun i hi => pageOf_at _ _ _ hs hi⟩⟩
        rw [mayG_snoc, if_pos (by simp only; omega)]
        refine List.mem_append_right _ ?_
        rw [show (x.p.toNat * 4 + s) % 4 = s from by omega, pageOf_first _ _ hs]
        simp
theorem many_sec (pick : List Int) (k : Nat) : ∃ m, m ≤ 4 ∧ many pick k = m * 64 := by
  unfold many
  split
  · refine ⟨(pick.getD k 0 % 5).toNat, ?_, rfl⟩
    have := Int.emod_lt_of_pos (pick.getD k 0) (show (0 : Int) < 5 by omega)
    omega
  · exact ⟨0, by omega, rfl⟩
theorem sec_mix {l : List OpM} {p : Nat} {a b : List Int} (ha : SecIn l p a) (hb : SecIn l p b) (hl : a.length = 256) (m : Nat) (hm : m ≤ 4) : SecIn l p (a.take (m * 64) ++ b.drop (m * 64)) := fun s hs => by
  have hlt : (a.take (m * 64)).length = m * 64 := by rw [List.length_take]; omega
  by_cases h : s < m
  · obtain ⟨c, h1, h2⟩ := ha s hs
    refine ⟨c, h1, fun i hi => ?_⟩
    rw [List.getElem?_append_left (by omega), List.getElem?_take_of_lt (by omega), h2 i hi]
  · obtain ⟨c, h1, h2⟩ := hb s hs
    refine ⟨c, h1, fun i hi => ?_⟩
    rw [List.getElem?_append_right (by omega), hlt, List.getElem?_drop, show m * 64 + (s * 64 + i - m * 64) = s * 64 + i from by omega, h2 i hi]
theorem sec_crash (st : List (List Int)) (ws : List (Nat × List Int)) (pick : List Int) (l : List OpM) (hst : ∀ p pg, st[p]? = some pg → SecIn l p pg) (hws : ∀ y ∈ ws, y.2.length = 256 ∧ SecIn l y.1 y.2) (hlen : ∀ y ∈ ws, y.1 < st.length) (k : Nat) (hk : k ≤ ws.length) :
    (crashUpto st ws pick k).length = st.length ∧ ∀ p pg, (crashUpto st ws pick k)[p]? = some pg → SecIn l p pg := by
  induction k with
  | zero => exact ⟨rfl, hst⟩
  | succ k ih =>
    obtain ⟨i1, i2⟩ := ih (by omega)
    have hm := List.getElem_mem (show k < ws.length from hk)
    obtain ⟨w1, w2⟩ := hws _ hm
    have w3 := hlen _ hm
    obtain ⟨m, hm4, hmm⟩ := many_sec pick k
    simp only [crashUpto]
    rw [getD_at _ _ _ (show k < ws.length from hk), hmm]
    refine ⟨by rw [List.length_set, i1], fun p pg hp => ?_⟩
    by_cases e : (ws[k]).1 = p
    · subst e
      rw [List.getElem?_set_self (by omega)] at hp
      injection hp with hp
      subst hp
      rw [getD_at _ _ _ (by omega)]
      exact sec_mix w2 (i2 _ _ (List.getElem?_eq_getElem (by omega))) w1 m hm4
    · rw [List.getElem?_set_ne e] at hp
      exact i2 p pg hp
theorem sectors_law (l : List OpM) (pick : List Int) : (crashM (secM (newM 8) l) pick).st.length = 8 ∧ ∀ p pg, (crashM (secM (newM 8) l) pick).st[p]? = some pg → SecIn l p pg := by
  obtain ⟨h1, h2⟩ := sec_ws (Calm.new 8) rfl l
  have hst : ∀ p pg, (secM (newM 8) l).st[p]? = some pg → SecIn l p pg := by
    rw [h1]
    intro p pg hp s hs
    simp only [newM, List.getElem?_replicate] at hp
    split at hp
    · injection hp with hp
      subst hp
      refine ⟨0, by unfold mayG; simp, fun i hi => ?_⟩
      have : zpage[s * 64 + i]? = some 0 := by
        unfold zpage
        rw [List.getElem?_replicate, if_pos (by omega)]
      exact this
    · cases hp
  have hw : ∀ y ∈ (secM (newM 8) l).ws, y.2.length = 256 := by
    clear h1 h2 hst
    generalize hn : l.length = n
    induction n generalizing l with
    | zero =>
      have : l = [] := List.eq_nil_of_length_eq_zero hn
      subst this
      intro y hy
      simp [secM, newM] at hy
    | succ n ih =>
      obtain ⟨r', x, rfl⟩ : ∃ r' x, l = r' ++ [x] := ⟨l.dropLast, l.getLast (by intro e; simp [e] at hn), (List.dropLast_concat_getLast _).symm⟩
      have e : secM (newM 8) (r' ++ [x]) = secStep (secM (newM 8) r') x := by unfold secM; rw [List.foldl_append]; rfl
      rw [e]
      have i := ih r' (by simpa using hn)
      unfold secStep
      split
      · exact i
      · rw [((Calm.new 8).secs r').writeM_eq]
        intro y hy
        simp only [List.mem_append, List.mem_singleton] at hy
        rcases hy with hy | rfl
        · exact i y hy
        · exact pageUpto_length _ _
  have hl : (secM (newM 8) l).st.length = 8 := by rw [h1]; rfl
  obtain ⟨c1, c2⟩ := sec_crash (secM (newM 8) l).st (secM (newM 8) l).ws pick l hst (fun y hy => ⟨hw y hy, (h2 y hy).2⟩) (fun y hy => by rw [hl]; exact (h2 y hy).1) _ (Nat.le_refl _)
  exact ⟨c1.trans hl, c2⟩
/-- The image's bytes. -/
theorem flat_get (st : List (List Int)) (hst : ∀ b ∈ st, b.length = 256) (p : Nat) (hp : p < st.length) (j : Nat) (hj : j < 256) : st.flatten[p * 256 + j]? = (st[p])[j]? := by
  induction st generalizing p with
  | nil => simp at hp
  | cons a r ih =>
    have ha := hst a (by simp)
    rw [List.flatten_cons]
    cases p with
    | zero => rw [Nat.zero_mul, Nat.zero_add, List.getElem?_append_left (by omega)]; rfl
    | succ p =>
      rw [List.getElem?_append_right (by omega), ha, show (p + 1) * 256 + j - 256 = p * 256 + j from by omega]
      exact ih (fun b hb => hst b (by simp [hb])) p (by simpa using hp)
end Go.Proofs.Ytkcechpaeilaeaa
