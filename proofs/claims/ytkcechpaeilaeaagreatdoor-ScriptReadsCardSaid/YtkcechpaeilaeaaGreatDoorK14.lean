/- Joined out of: G1 G2 G3. -/
import Derived.Test.YtkcechpaeilaeaaGreatDoorK1
import Derived.Test.YtkcechpaeilaeaaGreatDoorK4
import Derived.Test.YtkcechpaeilaeaaGreatDoorK3
set_option linter.unusedVariables false
set_option linter.unusedSimpArgs false
namespace Go.Proofs.YtkcechpaeilaeaaGreatDoor
open Go.RowKit
set_option maxRecDepth 20000
def lnGo : List UInt8 → List UInt8 → List (List UInt8)
 | cur, [] => if cur = [] then [] else [cur]
 | cur, c :: r => if c = 10 then cur :: lnGo [] r else lnGo (cur ++ [c]) r
theorem lnGo_cut : ∀ (r cur : List UInt8), cur ++ r ≠ [] → lnGo cur r = (cur ++ r.takeWhile (· != 10)) :: lnGo [] (r.dropWhile (· != 10)).tail
 | [], cur, h => by
  rw [List.append_nil] at h
  simp [lnGo, h]
 | c :: r, cur, h => by
  rw [lnGo]
  by_cases hc : c = 10
  ·subst hc; simp
  ·rw [if_neg hc, lnGo_cut r (cur ++ [c]) (by simp)]
   simp [hc]
def keepL (l : List UInt8) : Bool := l != [] && l.head? != some 35
def saidFrom : Nat → List (List UInt8) → List (Nat × List UInt8)
 | _, [] => []
 | k, l :: r => if keepL l then (k, l) :: saidFrom (k + 1) r else saidFrom (k + 1) r
def saidS (s : List UInt8) : List (Nat × List UInt8) := saidFrom 1 (lnGo [] s)
theorem saidFrom_length : ∀ (l : List (List UInt8)) (k : Nat), (saidFrom k l).length ≤ l.length
 | [], k => Nat.le_refl _
 | x :: r, k => by
  have := saidFrom_length r (k + 1)
  rw [saidFrom]
  split <;> simp only [List.length_cons] <;> omega
theorem saidFrom_app : ∀ (l m : List (List UInt8)) (k : Nat), saidFrom k (l ++ m) = saidFrom k l ++ saidFrom (k + l.length) m
 | [], m, k => by simp [saidFrom]
 | x :: r, m, k => by
  have := saidFrom_app r m (k + 1)
  simp only [List.cons_append, saidFrom, this, List.length_cons, show k + 1 + r.length = k + (r.length + 1) by omega]
  split <;> simp
theorem lnGo_length : ∀ (r cur : List UInt8), (lnGo cur r).length ≤ r.length + 1
 | [], cur => by rw [lnGo]; split <;> simp
 | c :: r, cur => by
  rw [lnGo]
  split
  ·have := lnGo_length r []
   simp only [List.length_cons]; omega
  ·have := lnGo_length r (cur ++ [c])
   simp only [List.length_cons]; omega
/-! ### rows of one's own, of any kind -/
structure Or (b : Nat) (e : TypeId) (size : Nat) (w : World) (v : Value) (n : Nat) (xs : List Value) : Prop where
 own : w.ownsRow 0 e size v n xs
 new : ∀ k, v.ownBlock = some k → b ≤ k
theorem Or.nil (b : Nat) (e : TypeId) (size : Nat) (w : World) : Or b e size w (.slice none 0 0) 0 [] := ⟨⟨by simp, .inl ⟨rfl, rfl⟩⟩, fun k hk => by cases hk⟩
theorem Or.fresh (w : World) (b : Nat) (e : TypeId) (size : Nat) (hb : b ≤ w.heap.size) : Or b e size (w.alloc (.cells #[] e)) (.slice (some ⟨w.heap.size, 0, none⟩) 0 0) 0 [] :=
 ⟨⟨by simp, .inr ⟨w.heap.size, 0, #[], rfl, Nat.zero_le _, _root_.Go.heap_alloc_new w _, Nat.le_refl _, by simp, by simp, by simp⟩⟩, fun k hk => by cases hk; exact hb⟩
theorem Or.keep {b : Nat} {e : TypeId} {size n : Nat} {w w' : World} {v : Value} {xs : List Value} (h : Or b e size w v n xs) (hk : KZ w w') : Or b e size w' v n xs :=
 ⟨ownsRow_keep h.own (fun k hk' hs => hk.block k hs id), h.new⟩
theorem Or.slice {b : Nat} {e : TypeId} {size n : Nat} {w : World} {v : Value} {xs : List Value} (h : Or b e size w v n xs) : ∃ A c, v = .slice A n c ∧ n ≤ c := ownsRow_cap h.own
theorem Or.at {b : Nat} {e : TypeId} {size n c : Nat} {w : World} {A : Option Addr} {xs : List Value} (h : Or b e size w (.slice A n c) n xs) (h0 : 0 < n) : ∃ g, A = some ⟨g, 0, none⟩ ∧ w.rangeAt g 0 xs ∧ b ≤ g ∧ g < w.heap.size := by
 rcases h.own.2 with ⟨_, hn⟩ | ⟨g, cap, cur, hv, hg, hh, hc, hx, hcs, ht⟩
 ·omega
 ·injection hv with e1 e2 e3
  subst e1
  refine ⟨g, rfl, fun j u hu => ?_, h.new g rfl, blk_lt hh⟩
  rw [Lib.cell_of_heap hh, Nat.zero_add]
  rw [← ht] at hu
  rw [← Array.getElem?_toList]
  rw [List.getElem?_take] at hu
  split at hu
  ·exact hu
  ·cases hu
section
variable {ops : Array Oper} {rest : List Oper} {o : Oper} {a : Act} {Q : Exit → Act → World → Prop} {K : Act → World → Prop}
theorem ow_or {b : Nat} {w : World} (s x : Operand) (t : TypeId) (ho : o.op = .call { callee := .builtin .append, args := #[s, x], argTypes := #[t, t] })
  (e : TypeId) (size bytes : Nat) {z : Value} (ht : Tryz.prog.underlying t = some (.slice e)) (hinf : (Tryz.prog.info? e).map (fun i => (i.zero, i.size, i.bytes)) = some (some z, size, bytes)) (hzs : z.cells.size = size) (hsz : 0 < size) (hby : bytes ≤ 1000)
  (v : Value) (n : Nat) (xs : List Value) (hs : a.eval s = v) (hown : Or b e size w v n xs) (hb : b ≤ w.heap.size)
  (g c : Nat) (news : List Value) (hx : a.eval x = .slice (some ⟨g, 0, none⟩) 1 c) (hl : news.length = size) (hnews : w.rangeAt g 0 news) (h1 : ∀ u ∈ news, u.oneCell' = true) (hn : n ≤ 1000000000)
  (h : ∀ v' w', Or b e size w' v' (n + 1) (xs ++ news) → Below b w w' → K (a.put o.dst v') w') : o.wp Tryz.prog a w K Q :=
 ow_append s x t ho e size bytes ht hinf hzs hsz v n xs hs hown.own g 0 1 c news hx (by omega) hnews h1 (by simp only [maxLen]; omega) (by
  have : (n + 1) * bytes ≤ 1000000001 * 1000 := Nat.mul_le_mul (by omega) hby
  omega) (by omega)
  (fun v' w' h1 h2 h3 => h v' w' ⟨h1, fun k hk => (h3 k hk).elim (hown.new k) (fun h => Nat.le_trans hb h)⟩ (h2.toBelow hb (fun k hk => hown.new k hk)))
theorem wl_or {b : Nat} {w : World} (hg : o.guard = none) (s x : Operand) (t : TypeId) (ho : o.op = .call { callee := .builtin .append, args := #[s, x], argTypes := #[t, t] })
  (e : TypeId) (size bytes : Nat) {z : Value} (ht : Tryz.prog.underlying t = some (.slice e)) (hinf : (Tryz.prog.info? e).map (fun i => (i.zero, i.size, i.bytes)) = some (some z, size, bytes)) (hzs : z.cells.size = size) (hsz : 0 < size) (hby : bytes ≤ 1000)
  (v : Value) (n : Nat) (xs : List Value) (hs : a.eval s = v) (hown : Or b e size w v n xs) (hb : b ≤ w.heap.size)
  (g c : Nat) (news : List Value) (hx : a.eval x = .slice (some ⟨g, 0, none⟩) 1 c) (hl : news.length = size) (hnews : w.rangeAt g 0 news) (h1 : ∀ u ∈ news, u.oneCell' = true) (hn : n ≤ 1000000000)
  (h : ∀ v' w', Or b e size w' v' (n + 1) (xs ++ news) → Below b w w' → wpList Tryz.prog ops Q rest (a.put o.dst v') w') : wpList Tryz.prog ops Q (o :: rest) a w :=
 wpList_plain hg fun _ hK => ow_or s x t ho e size bytes ht hinf hzs hsz hby v n xs hs hown hb g c news hx hl hnews h1 hn (fun v' w' a b => hK _ _ (h v' w' a b))
end
def wcl (l : List (List UInt8)) : List Value := l.map (fun x => .string ⟨x.toArray⟩)
theorem wcl_app (l : List (List UInt8)) (x : List UInt8) : wcl (l ++ [x]) = wcl l ++ [.string ⟨x.toArray⟩] := by simp [wcl]
theorem info9b : (Tryz.prog.info? 9).map (fun i => (i.zero, i.size, i.bytes)) = some (some (.string ⟨#[]⟩), 1, 16) := by kernel_rfl
theorem one_new (w : World) (v : Value) (e : TypeId) : (w.alloc (.cells #[v] e)).rangeAt w.heap.size 0 [v] := fun j u hu => by
 rw [Lib.cell_of_heap (_root_.Go.heap_alloc_new w _)]
 simpa using hu
structure An (b : Nat) (s : List UInt8) (w0 wr : World) (v : Value) (out : List (List UInt8)) (f i : Nat) : Prop where
 row : Or b 9 1 wr v out.length (wcl out)
 le : f ≤ i
 len : out.length ≤ i
 eq : out ++ lnGo ((s.drop f).take (i - f)) (s.drop i) = lnGo [] s
 below : Below b w0 wr
theorem An.nl {b i f : Nat} {s : List UInt8} {w0 wr : World} {v : Value} {out : List (List UInt8)} (h : An b s w0 wr v out f i) (hc : s[i]? = some 10) {v' : Value} {w' : World} (hr : Or b 9 1 w' v' (out.length + 1) (wcl out ++ [.string ⟨((s.drop f).take (i - f)).toArray⟩])) (hb : Below b wr w') :
  An b s w0 w' v' (out ++ [(s.drop f).take (i - f)]) (i + 1) (i + 1) := by
 refine ⟨by rw [wcl_app, List.length_append]; exact hr, Nat.le_refl _, by have := h.len; simp; omega, ?_, h.below.trans hb⟩
 have := h.eq
 obtain ⟨h1, e⟩ := List.getElem?_eq_some_iff.1 hc
 rw [List.drop_eq_getElem_cons h1, e, lnGo, if_pos rfl] at this
 rw [← this]
 simp
theorem An.ch {b i f : Nat} {s : List UInt8} {w0 wr : World} {v : Value} {out : List (List UInt8)} (h : An b s w0 wr v out f i) {c : UInt8} (hc : s[i]? = some c) (hne : c ≠ 10) : An b s w0 wr v out f (i + 1) := by
 refine ⟨h.row, Nat.le_succ_of_le h.le, Nat.le_succ_of_le h.len, ?_, h.below⟩
 have := h.eq
 obtain ⟨h1, e⟩ := List.getElem?_eq_some_iff.1 hc
 rw [List.drop_eq_getElem_cons h1, e, lnGo, if_neg hne] at this
 rw [← this]
 have h2 : i + 1 - f = (i - f) + 1 := by have := h.le; omega
 have h3 : (s.drop f).take (i - f + 1) = (s.drop f).take (i - f) ++ [c] := by
  rw [List.take_succ_eq_append_getElem (by rw [List.length_drop]; have := h.le; omega), List.getElem_drop]
  have h4 : f + (i - f) = i := by have := h.le; omega
  simp only [h4, e]
 rw [h2, h3]
theorem An.fin {b i f : Nat} {s : List UInt8} {w0 wr : World} {v : Value} {out : List (List UInt8)} (h : An b s w0 wr v out f i) (hi : i = s.length) (hf : ¬ f < s.length) : out = lnGo [] s := by
 have := h.eq
 subst hi
 rw [List.drop_of_length_le (Nat.le_refl _), List.drop_of_length_le (by omega)] at this
 simpa [lnGo] using this
theorem An.fin2 {b i f : Nat} {s : List UInt8} {w0 wr : World} {v : Value} {out : List (List UInt8)} (h : An b s w0 wr v out f i) (hi : i = s.length) (hf : f < s.length) : out ++ [s.drop f] = lnGo [] s := by
 have := h.eq
 subst hi
 have h3 : (s.drop f).take (s.length - f) = s.drop f := List.take_of_length_le (by rw [List.length_drop]; exact Nat.le_refl _)
 have h4 : s.drop f ≠ [] := by
  intro e
  have := congrArg List.length e
  rw [List.length_drop] at this
  simp at this
  omega
 rw [List.drop_of_length_le (Nat.le_refl _), h3, lnGo, if_neg h4] at this
 exact this
end Go.Proofs.YtkcechpaeilaeaaGreatDoor
namespace Go.Proofs.YtkcechpaeilaeaaGreatDoor
open Go.RowKit
set_option maxRecDepth 100000
theorem kp_alloc (w : World) (o : Obj) : KZ w (w.alloc o) := (Kp.refl _ w).alloc o
theorem size_alloc (w : World) (o : Obj) : (w.alloc o).heap.size = w.heap.size + 1 := by show (w.heap.push _).size = _; simp
set_option maxHeartbeats 1000000 in
theorem all_at (s : List UInt8) (hl : s.length ≤ 100000) (w : World) : Calls Tryz.prog 58 #[.string ⟨s.toArray⟩] w fun e w' => (∃ v, e = .returned v ∧ Or w.heap.size 9 1 w' v (lnGo [] s).length (wcl (lnGo [] s))) ∧ KZ w w' := by
 have hl := Hd.mk hl
 have hA0 : Hd (An w.heap.size s w (w.alloc (.cells #[] 9)) (.slice (some ⟨w.heap.size, 0, none⟩) 0 0) [] 0 0) := ⟨⟨Or.fresh w w.heap.size 9 1 (Nat.le_refl _), Nat.le_refl _, Nat.le_refl _, by simp, (Below.refl _ w).alloc (Nat.le_refl _) _⟩⟩
 go_enter Tryz.func58, Tryz.ntmps58
 go_wp2_with fail
 go_loopw [5, 3, 4] (fun v5 v3 v4 wr => ∃ (i f : Nat) (out : List (List UInt8)), v5 = .int .i64 i ∧ v4 = .int .i64 f ∧ (i : Int) ≤ s.length ∧ Hd (An w.heap.size s w wr v3 out f i)) (fun v5 _ _ _ => s.length - (intOf v5).toNat)
 case atStart => exact ⟨0, 0, [], rfl, rfl, by omega, hA0⟩
 case round =>
  clear hA0
  obtain ⟨i, f, out, rfl, rfl, hi, hA⟩ := hrel
  by_cases hlt : i < s.length
  ·have hlt2 : (i : Int) < s.length := by omega
   obtain ⟨c, hc⟩ : ∃ c, Hd (s[i]? = some c) := ⟨_, ⟨List.getElem?_eq_getElem hlt⟩⟩
   by_cases h10 : c = 10
   ·subst h10
    have hx : Hd (decide (((10 : UInt8).toNat : Int) = 10) = true) := ⟨by decide⟩
    have hle := Hd.mk hA.out.le
    have hle2 : Hd (i ≤ s.length) := ⟨by omega⟩
    have hn : Hd (out.length ≤ 1000000000) := ⟨by have := hA.out.len; have := hl.out; omega⟩
    have hwr : Hd (w.heap.size ≤ (wr.alloc (.cells #[.string ⟨((s.drop f).take (i - f)).toArray⟩] 9)).heap.size) := ⟨by rw [size_alloc]; exact Nat.le_succ_of_le hA.out.below.size⟩
    have hO := Hd.mk (hA.out.row.keep (kp_alloc wr (.cells #[.string ⟨((s.drop f).take (i - f)).toArray⟩] 9)))
    clear hlt
    go_wp2_with (first | (with_reducible refine wl_run rfl (ex_sidx _ 9 (.tmp 13) (.tmp 14) rfl U9 .i64 s i 10 hc.out i rfl rfl rfl) ?_) | ((with_reducible refine wl_run rfl (ex_eql _ 5 5 (.tmp 15) (.const (.int .u8 10)) rfl .u8 ((10 : UInt8).toNat : Int) 10 rfl rfl true hx.out) ?_); simp only [Act.put, uA, uB, uC]) | (with_reducible refine wl_run rfl (ex_scut _ 9 (.tmp 18) (.tmp 19) (.tmp 20) rfl U9 s .i64 f i hle.out hle2.out rfl rfl rfl) ?_) | ((with_reducible refine wl_or rfl (.tmp 17) (.tmp 22) 48 rfl 9 1 16 U48 info9b rfl (by decide) (by decide) _ _ _ rfl hO.out hwr.out wr.heap.size 1 [.string ⟨((s.drop f).take (i - f)).toArray⟩] rfl rfl (one_new _ _ _) (by simp [Value.oneCell']) hn.out ?_); intro v' w2 ho hb2; have ho := Hd.mk ho; have hb2 := Hd.mk hb2))
    exact ⟨⟨i + 1, i + 1, _, by go_num, by go_num, by omega, ⟨hA.out.nl hc.out ho.out (((Below.refl _ wr).alloc hA.out.below.size _).trans hb2.out)⟩⟩, by simp [intOf]; omega⟩
   ·have hx : Hd (decide ((c.toNat : Int) = 10) = false) := ⟨decide_eq_false (fun h => h10 (by
     have h2 : c.toNat = (10 : UInt8).toNat := by
      have : (10 : UInt8).toNat = 10 := rfl
      omega
     exact UInt8.toNat_inj.1 h2))⟩
    clear hlt
    go_wp2_with (first | (with_reducible refine wl_run rfl (ex_sidx _ 9 (.tmp 13) (.tmp 14) rfl U9 .i64 s i c hc.out i rfl rfl rfl) ?_) | ((with_reducible refine wl_run rfl (ex_eql _ 5 5 (.tmp 15) (.const (.int .u8 10)) rfl .u8 (c.toNat : Int) 10 rfl rfl false hx.out) ?_); simp only [Act.put, uA, uB, uC]))
    exact ⟨⟨i + 1, f, out, by go_num, rfl, by omega, ⟨hA.out.ch hc.out h10⟩⟩, by simp [intOf]; omega⟩
  ·have hi2 : Hd (i = s.length) := ⟨by omega⟩
   have hi3 : (i : Int) = s.length := by omega
   by_cases hf : f < s.length
   ·have hf2 : (f : Int) < s.length := by omega
    have hle : Hd (f ≤ s.length) := ⟨by omega⟩
    have hn : Hd (out.length ≤ 1000000000) := ⟨by have := hA.out.len; have := hl.out; omega⟩
    have hwr : Hd (w.heap.size ≤ (wr.alloc (.cells #[.string ⟨(s.drop f).toArray⟩] 9)).heap.size) := ⟨by rw [size_alloc]; exact Nat.le_succ_of_le hA.out.below.size⟩
    have hO := Hd.mk (hA.out.row.keep (kp_alloc wr (.cells #[.string ⟨(s.drop f).toArray⟩] 9)))
    have he := Hd.mk (hA.out.fin2 hi2.out hf)
    clear hlt hf
    go_wp2_with (first | (with_reducible refine wl_run rfl (ex_sfrom _ 9 (.tmp 31) (.tmp 32) rfl U9 s .i64 f hle.out rfl rfl) ?_) | ((with_reducible refine wl_or rfl (.tmp 30) (.tmp 34) 48 rfl 9 1 16 U48 info9b rfl (by decide) (by decide) _ _ _ rfl hO.out hwr.out wr.heap.size 1 [.string ⟨(s.drop f).toArray⟩] rfl rfl (one_new _ _ _) (by simp [Value.oneCell']) hn.out ?_); intro v' w2 ho hb2; have ho := Hd.mk ho; have hb2 := Hd.mk hb2))
    go_ret
    refine ⟨⟨_, rfl, ?_⟩, Kp.of_below (hA.out.below.trans (((Below.refl _ wr).alloc hA.out.below.size _).trans hb2.out)) _⟩
    rw [← he.out, wcl_app, List.length_append]
    exact ho.out
   ·have hf2 : ¬ (f : Int) < s.length := by omega
    have he := Hd.mk (hA.out.fin hi2.out hf)
    clear hlt hf
    go_wp2_with fail
    go_ret
    refine ⟨⟨_, rfl, ?_⟩, Kp.of_below hA.out.below _⟩
    rw [← he.out]
    exact hA.out.row
def scl (l : List (Nat × List UInt8)) : List Value := l.flatMap fun x => [.int .i64 (x.1 : Int), .string ⟨x.2.toArray⟩]
theorem scl_app (l : List (Nat × List UInt8)) (x : Nat × List UInt8) : scl (l ++ [x]) = scl l ++ [.int .i64 (x.1 : Int), .string ⟨x.2.toArray⟩] := by simp [scl]
theorem info41b : (Tryz.prog.info? 41).map (fun i => (i.zero, i.size, i.bytes)) = some (some (.agg #[.int .i64 0, .string ⟨#[]⟩]), 2, 24) := by kernel_rfl
theorem two_new (w : World) (u v : Value) (e : TypeId) : (w.alloc (.cells #[u, v] e)).rangeAt w.heap.size 0 [u, v] := fun j x hu => by
 rw [Lib.cell_of_heap (_root_.Go.heap_alloc_new w _)]
 simpa using hu
section
variable {ops : Array Oper} {rest : List Oper} {o : Oper} {a : Act} {Q : Exit → Act → World → Prop} {K : Act → World → Prop}
theorem wl_or2 {b : Nat} {w : World} (hg : o.guard = none) (s x : Operand) (t : TypeId) (ho : o.op = .call { callee := .builtin .append, args := #[s, x], argTypes := #[t, t] })
  (e : TypeId) (size bytes : Nat) {z : Value} (ht : Tryz.prog.underlying t = some (.slice e)) (hinf : (Tryz.prog.info? e).map (fun i => (i.zero, i.size, i.bytes)) = some (some z, size, bytes)) (hzs : z.cells.size = size) (hsz : 0 < size) (hby : bytes ≤ 1000)
  (v : Value) (n : Nat) (xs : List Value) (hs : a.eval s = v) (hown : Or b e size w v n xs) (hb : b ≤ w.heap.size)
  (g c : Nat) (news : List Value) (hx : a.eval x = .slice (some ⟨g, 0, none⟩) 1 c) (hl : news.length = size) (hnews : w.rangeAt g 0 news) (h1 : ∀ u ∈ news, u.oneCell' = true) (hn : n ≤ 1000000000)
  (h : ∀ v' w', Or b e size w' v' (n + 1) (xs ++ news) → Below b w w' → Kp (fun k => v.ownBlock = some k) w w' → (∀ k, v'.ownBlock = some k → v.ownBlock = some k ∨ w.heap.size ≤ k) → wpList Tryz.prog ops Q rest (a.put o.dst v') w') : wpList Tryz.prog ops Q (o :: rest) a w :=
 wl_append hg s x t ho e size bytes ht hinf hzs hsz v n xs hs hown.own g 0 1 c news hx (by omega) hnews h1 (by simp only [maxLen]; omega) (by
  have : (n + 1) * bytes ≤ 1000000001 * 1000 := Nat.mul_le_mul (by omega) hby
  omega) (by omega)
  (fun v' w' h1 h2 h3 => h v' w' ⟨h1, fun k hk => (h3 k hk).elim (hown.new k) (fun h => Nat.le_trans hb h)⟩ (h2.toBelow hb (fun k hk => hown.new k hk)) h2 h3)
end
structure Rn (g : Nat) (ls : List (List UInt8)) (w0 wr : World) (v : Value) (i : Nat) : Prop where
 row : Or w0.heap.size 41 2 wr v (saidFrom 1 (ls.take i)).length (scl (saidFrom 1 (ls.take i)))
 apart : 0 < ls.length → ∀ k, v.ownBlock = some k → k ≠ g
 lines : wr.rangeAt g 0 (wcl ls)
 lt : 0 < ls.length → g < wr.heap.size
 below : Below w0.heap.size w0 wr
theorem wcl_get (ls : List (List UInt8)) (i : Nat) (x : List UInt8) (h : ls[i]? = some x) : (wcl ls)[i]? = some (.string ⟨x.toArray⟩) := by simp [wcl, h]
theorem Rn.cell {g i : Nat} {ls : List (List UInt8)} {w0 wr : World} {v : Value} (h : Rn g ls w0 wr v i) {j : Nat} {x : List UInt8} (hx : ls[j]? = some x) : wr.cell? ⟨g, j, none⟩ = some (.string ⟨x.toArray⟩) := by
 have := h.lines j _ (wcl_get ls j x hx)
 rwa [Nat.zero_add] at this
theorem said_take {ls : List (List UInt8)} {i : Nat} {x : List UInt8} (hx : ls[i]? = some x) : saidFrom 1 (ls.take (i + 1)) = saidFrom 1 (ls.take i) ++ (if keepL x then [(i + 1, x)] else []) := by
 obtain ⟨h1, rfl⟩ := List.getElem?_eq_some_iff.1 hx
 rw [List.take_succ_eq_append_getElem h1, saidFrom_app, List.length_take, Nat.min_eq_left (Nat.le_of_lt h1)]
 simp only [saidFrom, Nat.add_comm 1 i]
theorem Rn.skip {g i : Nat} {ls : List (List UInt8)} {w0 wr : World} {v : Value} (h : Rn g ls w0 wr v i) {x : List UInt8} (hx : ls[i]? = some x) (hk : keepL x = false) : Rn g ls w0 wr v (i + 1) := by
 have e := said_take hx
 rw [hk] at e
 simp only [Bool.false_eq_true, if_false, List.append_nil] at e
 exact ⟨by rw [e]; exact h.row, h.apart, h.lines, h.lt, h.below⟩
theorem Rn.put {g i : Nat} {ls : List (List UInt8)} {w0 wr : World} {v : Value} (h : Rn g ls w0 wr v i) {x : List UInt8} (hx : ls[i]? = some x) (hk : keepL x = true) {o : Obj} {v' : Value} {w' : World}
  (ho : Or w0.heap.size 41 2 w' v' ((saidFrom 1 (ls.take i)).length + 1) (scl (saidFrom 1 (ls.take i)) ++ [.int .i64 ((i + 1 : Nat) : Int), .string ⟨x.toArray⟩])) (hb : Below w0.heap.size (wr.alloc o) w') (hkp : Kp (fun k => v.ownBlock = some k) (wr.alloc o) w') (hn : ∀ k, v'.ownBlock = some k → v.ownBlock = some k ∨ (wr.alloc o).heap.size ≤ k) : Rn g ls w0 w' v' (i + 1) := by
 have e := said_take hx
 rw [hk] at e
 simp only [if_true] at e
 have h0 : 0 < ls.length := by
  have := (List.getElem?_eq_some_iff.1 hx).1
  omega
 have hlt := h.lt h0
 refine ⟨by rw [e, scl_app, List.length_append]; exact ho, fun _ k hv => ?_, fun j u hu => ?_, fun _ => ?_, (h.below.alloc h.below.size o).trans hb⟩
 ·rcases hn k hv with h1 | h1
  ·exact h.apart h0 k h1
  ·rw [size_alloc] at h1; omega
 ·exact hkp.see ((kp_alloc wr o).see (h.lines j u hu) id) (fun hv => h.apart h0 g hv rfl)
 ·have := hkp.size; rw [size_alloc] at this; omega
set_option maxHeartbeats 1000000 in
theorem rlines_at (s : List UInt8) (hl : s.length ≤ 100000) (w : World) : Calls Tryz.prog 16 #[.string ⟨s.toArray⟩] w fun e w' => (∃ v, e = .returned v ∧ Or w.heap.size 41 2 w' v (saidS s).length (scl (saidS s))) ∧ KZ w w' := by
 unfold saidS
 have hl := Hd.mk hl
 have hc := Hd.mk (all_at s hl.out (w.alloc (.cells #[] 41)))
 have hO0 := Hd.mk (Or.fresh w w.heap.size 41 2 (Nat.le_refl _))
 go_enter Tryz.func16, Tryz.ntmps16
 go_wp2_with fail
 refine hc.out.mono ?_
 rintro e w1 ⟨⟨v, rfl, hL⟩, k1⟩
 obtain ⟨A, c, rfl, hcap⟩ := hL.slice
 have hln : Hd ((lnGo [] s).length ≤ 100001) := ⟨by have := lnGo_length s []; have := hl.out; omega⟩
 have hgg : Hd (∃ g, Rn g (lnGo [] s) w w1 (.slice (some ⟨w.heap.size, 0, none⟩) 0 0) 0 ∧ (0 < (lnGo [] s).length → A = some ⟨g, 0, none⟩)) := ⟨by
  have hO1 := hO0.out.keep k1
  have hb1 : Below w.heap.size w w1 := ((Below.refl _ w).alloc (Nat.le_refl _) _).trans (k1.toBelow (by rw [size_alloc]; omega) (fun _ h => h.elim))
  by_cases h0 : 0 < (lnGo [] s).length
  ·obtain ⟨g, hA, hr, hg1, hg2⟩ := hL.at h0
   rw [size_alloc] at hg1
   exact ⟨g, ⟨hO1, fun _ k hk => by injection hk with hk; rw [← hk]; show w.heap.size ≠ g; omega, hr, fun _ => hg2, hb1⟩, fun _ => hA⟩
  ·have e0 : lnGo [] s = [] := List.eq_nil_of_length_eq_zero (by omega)
   refine ⟨0, ⟨hO1, fun h => absurd h h0, ?_, fun h => absurd h h0, hb1⟩, fun h => absurd h h0⟩
   rw [e0]; intro j u hu; simp [wcl] at hu⟩
 obtain ⟨g, hR0, hAg⟩ := hgg.out
 have hR0 := Hd.mk hR0
 have hAg := Hd.mk hAg
 clear hc hO0 hgg hL hcap k1 hl
 obtain ⟨ls, hls⟩ : ∃ x, Hd (lnGo [] s = x) := ⟨_, ⟨rfl⟩⟩
 rw [hls.out] at hR0 hAg hln ⊢
 have hlb : (ls.length : Int) ≤ 100001 := by have := hln.out; omega
 go_wp2_with fail
 go_loopw [5, 3] (fun v5 v3 wr => ∃ i : Nat, v5 = .int .i64 i ∧ (i : Int) ≤ ls.length ∧ Hd (Rn g ls w wr v3 i)) (fun v5 _ _ => ls.length - (intOf v5).toNat)
 case atStart => exact ⟨0, rfl, by omega, hR0⟩
 case round =>
  clear hR0
  obtain ⟨i, rfl, hi, hR⟩ := hrel
  by_cases hlt : i < ls.length
  ·have hlt2 : (i : Int) < ls.length := by omega
   obtain rfl := hAg.out (by omega)
   obtain ⟨x, hx⟩ : ∃ x, Hd (ls[i]? = some x) := ⟨_, ⟨List.getElem?_eq_getElem hlt⟩⟩
   have d0 := hR.out.cell hx.out
   clear hAg hlt
   rcases x with _ | ⟨c, r⟩
   ·have hb : Hd (((([] : List UInt8)) != []) = false) := ⟨rfl⟩
    go_wp2_with (first | ((with_reducible refine wl_run rfl (ex_sneq _ 9 9 (.tmp 18) (.const (.string ⟨#[]⟩)) rfl [] [] false hb.out rfl rfl) ?_); simp only [Act.put, uA, uB, uC]))
    exact ⟨⟨i + 1, by go_num, by omega, ⟨hR.out.skip hx.out rfl⟩⟩, by simp [intOf]; omega⟩
   ·have hb : Hd (((c :: r) != []) = true) := ⟨by simp⟩
    have hc0 : Hd ((c :: r)[0]? = some c) := ⟨rfl⟩
    by_cases h35 : c = 35
    ·subst h35
     have hx35 : Hd (decide (((35 : UInt8).toNat : Int) ≠ 35) = false) := ⟨by decide⟩
     have hk : Hd (keepL (35 :: r) = false) := ⟨by simp [keepL]⟩
     go_wp2_with (first | ((with_reducible refine wl_run rfl (ex_sneq _ 9 9 (.tmp 18) (.const (.string ⟨#[]⟩)) rfl (35 :: r) [] true hb.out rfl rfl) ?_); simp only [Act.put, uA, uB, uC]) | ((with_reducible refine wl_runG ?hw (ex_sidx _ 9 (.tmp 24) (.const (.int .i64 0)) rfl U9 .i64 (35 :: r) 0 35 hc0.out 0 rfl rfl rfl) ?_); (case hw => rfl); simp only [Act.put, uA, uB, uC]) | ((with_reducible refine wl_runG ?hw (ex_neq _ 5 5 (.tmp 25) (.const (.int .u8 35)) rfl .u8 ((35 : UInt8).toNat : Int) 35 rfl rfl false hx35.out) ?_); (case hw => rfl); simp only [Act.put, uA, uB, uC]))
     exact ⟨⟨i + 1, by go_num, by omega, ⟨hR.out.skip hx.out hk.out⟩⟩, by simp [intOf]; omega⟩
    ·have hx35 : Hd (decide ((c.toNat : Int) ≠ 35) = true) := ⟨decide_eq_true (fun h => h35 (by
      have h2 : c.toNat = (35 : UInt8).toNat := by
       have : (35 : UInt8).toNat = 35 := rfl
       omega
      exact UInt8.toNat_inj.1 h2))⟩
     have hk : Hd (keepL (c :: r) = true) := ⟨by simp [keepL, h35]⟩
     have hn : Hd ((saidFrom 1 (ls.take i)).length ≤ 1000000000) := ⟨by
      have h1 := saidFrom_length (ls.take i) 1
      rw [List.length_take] at h1
      have := hln.out
      omega⟩
     have hwr : Hd (w.heap.size ≤ (wr.alloc (.cells #[.int .i64 ((i : Int) + 1), .string ⟨(c :: r).toArray⟩] 41)).heap.size) := ⟨by rw [size_alloc]; exact Nat.le_succ_of_le hR.out.below.size⟩
     have hO := Hd.mk (hR.out.row.keep (kp_alloc wr (.cells #[.int .i64 ((i : Int) + 1), .string ⟨(c :: r).toArray⟩] 41)))
     go_wp2_with (first | ((with_reducible refine wl_run rfl (ex_sneq _ 9 9 (.tmp 18) (.const (.string ⟨#[]⟩)) rfl (c :: r) [] true hb.out rfl rfl) ?_); simp only [Act.put, uA, uB, uC]) | ((with_reducible refine wl_runG ?hw (ex_sidx _ 9 (.tmp 24) (.const (.int .i64 0)) rfl U9 .i64 (c :: r) 0 c hc0.out 0 rfl rfl rfl) ?_); (case hw => rfl); simp only [Act.put, uA, uB, uC]) | ((with_reducible refine wl_runG ?hw (ex_neq _ 5 5 (.tmp 25) (.const (.int .u8 35)) rfl .u8 (c.toNat : Int) 35 rfl rfl true hx35.out) ?_); (case hw => rfl); simp only [Act.put, uA, uB, uC]) | ((with_reducible refine wl_or2 rfl (.tmp 28) (.tmp 36) 35 rfl 41 2 24 U35 info41b rfl (by decide) (by decide) _ _ _ rfl hO.out hwr.out wr.heap.size 1 [.int .i64 ((i : Int) + 1), .string ⟨(c :: r).toArray⟩] rfl rfl (two_new _ _ _ _) (by simp [Value.oneCell']) hn.out ?_); intro v' w2 ho hb2 hkp hnn; have ho := Hd.mk ho; have hb2 := Hd.mk hb2; have hkp := Hd.mk hkp; have hnn := Hd.mk hnn))
     exact ⟨⟨i + 1, by go_num, by omega, ⟨hR.out.put hx.out hk.out ho.out hb2.out hkp.out hnn.out⟩⟩, by simp [intOf]; omega⟩
  ·have hi2 : Hd (i = ls.length) := ⟨by omega⟩
   have hi3 : (i : Int) = ls.length := by omega
   clear hlt
   obtain ⟨A3, c3, rfl, _⟩ := hR.out.row.slice
   go_wp2_with fail
   go_ret
   refine ⟨⟨_, rfl, ?_⟩, Kp.of_below hR.out.below _⟩
   have e : saidFrom 1 (ls.take i) = saidFrom 1 ls := by rw [hi2.out, List.take_length]
   rw [hls.out, ← e]
   exact hR.out.row
end Go.Proofs.YtkcechpaeilaeaaGreatDoor
