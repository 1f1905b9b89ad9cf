/- A text's lines: the plain law; rows of one's own; the document's lines. -/
import Derived.Test.YtkcechpaeilaeaaGreatDoorGa
import Derived.Test.YtkcechpaeilaeaaGreatDoorOb
import Derived.Test.YtkcechpaeilaeaaGreatDoorTa
import Derived.Test.YtkcechpaeilaeaaGreatDoorWq
namespace Go.Proofs.YtkcechpaeilaeaaGreatDoor
open Go.RowKit
set_option linter.unusedVariables false
set_option linter.unusedSimpArgs false
set_option maxRecDepth 20000

/-- The lines of what is left, behind a line that is begun. -/
def lnGo : List UInt8 → List UInt8 → List (List UInt8)
  | cur, [] => if cur = [] then [] else [cur]
  | cur, c :: r => if c = 10 then cur :: lnGo [] r else lnGo (cur ++ [c]) r
theorem lnGo_cut : ∀ (r cur : List UInt8), cur ++ r ≠ [] → lnGo cur r = (cur ++ r.takeWhile (· != 10)) :: lnGo [] (r.dropWhile (· != 10)).tail
  | [], cur, h => by
    rw [List.append_nil] at h
    simp [lnGo, h]
  | c :: r, cur, h => by
    rw [lnGo]
    by_cases hc : c = 10
    · subst hc; simp
    · rw [if_neg hc, lnGo_cut r (cur ++ [c]) (by simp)]
      simp [hc]
/-- Does a line say something? -/
def keepL (l : List UInt8) : Bool := l != [] && l.head? != some 35
/-- The lines that say something, each with its number. -/
def saidFrom : Nat → List (List UInt8) → List (Nat × List UInt8)
  | _, [] => []
  | k, l :: r => if keepL l then (k, l) :: saidFrom (k + 1) r else saidFrom (k + 1) r
def saidS (s : List UInt8) : List (Nat × List UInt8) := saidFrom 1 (lnGo [] s)
theorem saidFrom_length : ∀ (l : List (List UInt8)) (k : Nat), (saidFrom k l).length ≤ l.length
  | [], k => Nat.le_refl _
  | x :: r, k => by
    have := saidFrom_length r (k + 1)
    rw [saidFrom]
    split <;> simp only [List.length_cons] <;> omega
theorem saidFrom_app : ∀ (l m : List (List UInt8)) (k : Nat), saidFrom k (l ++ m) = saidFrom k l ++ saidFrom (k + l.length) m
  | [], m, k => by simp [saidFrom]
  | x :: r, m, k => by
    have := saidFrom_app r m (k + 1)
    simp only [List.cons_append, saidFrom, this, List.length_cons, show k + 1 + r.length = k + (r.length + 1) by omega]
    split <;> simp
theorem lnGo_length : ∀ (r cur : List UInt8), (lnGo cur r).length ≤ r.length + 1
  | [], cur => by rw [lnGo]; split <;> simp
  | c :: r, cur => by
    rw [lnGo]
    split
    · have := lnGo_length r []
      simp only [List.length_cons]; omega
    · have := lnGo_length r (cur ++ [c])
      simp only [List.length_cons]; omega

/-! ### rows of one's own, of any kind -/
/-- The row xs of n elements, in a block of one's own at or behind b. -/
structure Or (b : Nat) (e : TypeId) (size : Nat) (w : World) (v : Value) (n : Nat) (xs : List Value) : Prop where
  own : w.ownsRow 0 e size v n xs
  new : ∀ k, v.ownBlock = some k → b ≤ k
theorem Or.nil (b : Nat) (e : TypeId) (size : Nat) (w : World) : Or b e size w (.slice none 0 0) 0 [] := ⟨⟨by simp, .inl ⟨rfl, rfl⟩⟩, fun k hk => by cases hk⟩
theorem Or.fresh (w : World) (b : Nat) (e : TypeId) (size : Nat) (hb : b ≤ w.heap.size) : Or b e size (w.alloc (.cells #[] e)) (.slice (some ⟨w.heap.size, 0, none⟩) 0 0) 0 [] :=
  ⟨⟨by simp, .inr ⟨w.heap.size, 0, #[], rfl, Nat.zero_le _, _root_.Go.heap_alloc_new w _, Nat.le_refl _, by simp, by simp, by simp⟩⟩, fun k hk => by cases hk; exact hb⟩
theorem Or.keep {b : Nat} {e : TypeId} {size n : Nat} {w w' : World} {v : Value} {xs : List Value} (h : Or b e size w v n xs) (hk : Kp (fun _ => False) w w') : Or b e size w' v n xs :=
  ⟨ownsRow_keep h.own (fun k hk' hs => hk.block k hs id), h.new⟩
theorem Or.slice {b : Nat} {e : TypeId} {size n : Nat} {w : World} {v : Value} {xs : List Value} (h : Or b e size w v n xs) : ∃ A c, v = .slice A n c ∧ n ≤ c := ownsRow_cap h.own
/-- What stands at a place. -/
theorem Or.at {b : Nat} {e : TypeId} {size n c : Nat} {w : World} {A : Option Addr} {xs : List Value} (h : Or b e size w (.slice A n c) n xs) (h0 : 0 < n) : ∃ g, A = some ⟨g, 0, none⟩ ∧ w.rangeAt g 0 xs ∧ b ≤ g ∧ g < w.heap.size := by
  rcases h.own.2 with ⟨_, hn⟩ | ⟨g, cap, cur, hv, hg, hh, hc, hx, hcs, ht⟩
  · omega
  · injection hv with e1 e2 e3
    subst e1
    refine ⟨g, rfl, fun j u hu => ?_, h.new g rfl, blk_lt hh⟩
    rw [Lib.cell_of_heap hh, Nat.zero_add]
    rw [← ht] at hu
    rw [← Array.getElem?_toList]
    rw [List.getElem?_take] at hu
    split at hu
    · exact hu
    · cases hu
section
variable {ops : Array Oper} {rest : List Oper} {o : Oper} {a : Act} {Q : Exit → Act → World → Prop} {K : Act → World → Prop}
/-- One element behind a row of one's own. -/
theorem ow_or {b : Nat} {w : World} (s x : Operand) (t : TypeId) (ho : o.op = .call { callee := .builtin .append, args := #[s, x], argTypes := #[t, t] })
    (e : TypeId) (size bytes : Nat) {z : Value} (ht : Tryz.prog.underlying t = some (.slice e)) (hinf : (Tryz.prog.info? e).map (fun i => (i.zero, i.size, i.bytes)) = some (some z, size, bytes)) (hzs : z.cells.size = size) (hsz : 0 < size) (hby : bytes ≤ 1000)
    (v : Value) (n : Nat) (xs : List Value) (hs : a.eval s = v) (hown : Or b e size w v n xs) (hb : b ≤ w.heap.size)
    (g c : Nat) (news : List Value) (hx : a.eval x = .slice (some ⟨g, 0, none⟩) 1 c) (hl : news.length = size) (hnews : w.rangeAt g 0 news) (h1 : ∀ u ∈ news, u.oneCell' = true) (hn : n ≤ 1000000000)
    (h : ∀ v' w', Or b e size w' v' (n + 1) (xs ++ news) → Below b w w' → K (a.put o.dst v') w') : o.wp Tryz.prog a w K Q :=
  ow_append s x t ho e size bytes ht hinf hzs hsz v n xs hs hown.own g 0 1 c news hx (by omega) hnews h1 (by simp only [maxLen]; omega) (by
    have : (n + 1) * bytes ≤ 1000000001 * 1000 := Nat.mul_le_mul (by omega) hby
    omega) (by omega)
    (fun v' w' h1 h2 h3 => h v' w' ⟨h1, fun k hk => (h3 k hk).elim (hown.new k) (fun h => Nat.le_trans hb h)⟩ (h2.toBelow hb (fun k hk => hown.new k hk)))
theorem wl_or {b : Nat} {w : World} (hg : o.guard = none) (s x : Operand) (t : TypeId) (ho : o.op = .call { callee := .builtin .append, args := #[s, x], argTypes := #[t, t] })
    (e : TypeId) (size bytes : Nat) {z : Value} (ht : Tryz.prog.underlying t = some (.slice e)) (hinf : (Tryz.prog.info? e).map (fun i => (i.zero, i.size, i.bytes)) = some (some z, size, bytes)) (hzs : z.cells.size = size) (hsz : 0 < size) (hby : bytes ≤ 1000)
    (v : Value) (n : Nat) (xs : List Value) (hs : a.eval s = v) (hown : Or b e size w v n xs) (hb : b ≤ w.heap.size)
    (g c : Nat) (news : List Value) (hx : a.eval x = .slice (some ⟨g, 0, none⟩) 1 c) (hl : news.length = size) (hnews : w.rangeAt g 0 news) (h1 : ∀ u ∈ news, u.oneCell' = true) (hn : n ≤ 1000000000)
    (h : ∀ v' w', Or b e size w' v' (n + 1) (xs ++ news) → Below b w w' → wpList Tryz.prog ops Q rest (a.put o.dst v') w') : wpList Tryz.prog ops Q (o :: rest) a w :=
  wpList_plain hg fun _ hK => ow_or s x t ho e size bytes ht hinf hzs hsz hby v n xs hs hown hb g c news hx hl hnews h1 hn (fun v' w' a b => hK _ _ (h v' w' a b))
end
/-- Lines in memory. -/
def wcl (l : List (List UInt8)) : List Value := l.map (fun x => .string ⟨x.toArray⟩)
theorem wcl_app (l : List (List UInt8)) (x : List UInt8) : wcl (l ++ [x]) = wcl l ++ [.string ⟨x.toArray⟩] := by simp [wcl]
theorem info9b : (Tryz.prog.info? 9).map (fun i => (i.zero, i.size, i.bytes)) = some (some (.string ⟨#[]⟩), 1, 16) := by kernel_rfl
theorem one_new (w : World) (v : Value) (e : TypeId) : (w.alloc (.cells #[v] e)).rangeAt w.heap.size 0 [v] := fun j u hu => by
  rw [Lib.cell_of_heap (_root_.Go.heap_alloc_new w _)]
  simpa using hu
/-- How far the lines are found. -/
structure An (b : Nat) (s : List UInt8) (w0 wr : World) (v : Value) (out : List (List UInt8)) (f i : Nat) : Prop where
  row : Or b 9 1 wr v out.length (wcl out)
  le : f ≤ i
  len : out.length ≤ i
  eq : out ++ lnGo ((s.drop f).take (i - f)) (s.drop i) = lnGo [] s
  below : Below b w0 wr
theorem An.nl {b i f : Nat} {s : List UInt8} {w0 wr : World} {v : Value} {out : List (List UInt8)} (h : An b s w0 wr v out f i) (hc : s[i]? = some 10) {v' : Value} {w' : World} (hr : Or b 9 1 w' v' (out.length + 1) (wcl out ++ [.string ⟨((s.drop f).take (i - f)).toArray⟩])) (hb : Below b wr w') :
    An b s w0 w' v' (out ++ [(s.drop f).take (i - f)]) (i + 1) (i + 1) := by
  refine ⟨by rw [wcl_app, List.length_append]; exact hr, Nat.le_refl _, by have := h.len; simp; omega, ?_, h.below.trans hb⟩
  have := h.eq
  obtain ⟨h1, e⟩ := List.getElem?_eq_some_iff.1 hc
  rw [List.drop_eq_getElem_cons h1, e, lnGo, if_pos rfl] at this
  rw [← this]
  simp
theorem An.ch {b i f : Nat} {s : List UInt8} {w0 wr : World} {v : Value} {out : List (List UInt8)} (h : An b s w0 wr v out f i) {c : UInt8} (hc : s[i]? = some c) (hne : c ≠ 10) : An b s w0 wr v out f (i + 1) := by
  refine ⟨h.row, Nat.le_succ_of_le h.le, Nat.le_succ_of_le h.len, ?_, h.below⟩
  have := h.eq
  obtain ⟨h1, e⟩ := List.getElem?_eq_some_iff.1 hc
  rw [List.drop_eq_getElem_cons h1, e, lnGo, if_neg hne] at this
  rw [← this]
  have h2 : i + 1 - f = (i - f) + 1 := by have := h.le; omega
  have h3 : (s.drop f).take (i - f + 1) = (s.drop f).take (i - f) ++ [c] := by
    rw [List.take_succ_eq_append_getElem (by rw [List.length_drop]; have := h.le; omega), List.getElem_drop]
    have h4 : f + (i - f) = i := by have := h.le; omega
    simp only [h4, e]
  rw [h2, h3]
theorem An.fin {b i f : Nat} {s : List UInt8} {w0 wr : World} {v : Value} {out : List (List UInt8)} (h : An b s w0 wr v out f i) (hi : i = s.length) (hf : ¬ f < s.length) : out = lnGo [] s := by
  have := h.eq
  subst hi
  rw [List.drop_of_length_le (Nat.le_refl _), List.drop_of_length_le (by omega)] at this
  simpa [lnGo] using this
theorem An.fin2 {b i f : Nat} {s : List UInt8} {w0 wr : World} {v : Value} {out : List (List UInt8)} (h : An b s w0 wr v out f i) (hi : i = s.length) (hf : f < s.length) : out ++ [s.drop f] = lnGo [] s := by
  have := h.eq
  subst hi
  have h3 : (s.drop f).take (s.length - f) = s.drop f := List.take_of_length_le (by rw [List.length_drop]; exact Nat.le_refl _)
  have h4 : s.drop f ≠ [] := by
    intro e
    have := congrArg List.length e
    rw [List.length_drop] at this
    simp at this
    omega
  rw [List.drop_of_length_le (Nat.le_refl _), h3, lnGo, if_neg h4] at this
  exact this
end Go.Proofs.YtkcechpaeilaeaaGreatDoor
