/- Joined out of: R1 R2 R3. -/
import Derived.Test.YtkcechpaeilaeaaGreatDoorK11
import Derived.Test.YtkcechpaeilaeaaGreatDoorK17
import Derived.Test.YtkcechpaeilaeaaGreatDoorK14
import Derived.RangeFuncOwn
set_option linter.unusedVariables false
set_option linter.unusedSimpArgs false
namespace Go.Proofs.YtkcechpaeilaeaaGreatDoor
open Go.RowKit
/-! ### numerals -/
theorem digstep_snoc {c : UInt8} : ∀ (y : List UInt8) (acc v : Nat), digstep (y ++ [c]) acc = (v : Int) → ∃ u : Nat, digstep y acc = (u : Int) ∧ (48 ≤ c.toNat ∧ c.toNat ≤ 57) ∧ v = u * 10 + (c.toNat - 48)
 | [], acc, v, h => by
  simp only [List.nil_append, digstep] at h ⊢
  split at h
  ·rename_i hc
   exact ⟨acc, rfl, hc, by omega⟩
  ·omega
 | a :: y, acc, v, h => by
  simp only [List.cons_append, digstep] at h ⊢
  split at h
  ·rename_i ha
   rw [if_pos ha]
   exact digstep_snoc y _ v h
  ·omega
theorem digstep_lt : ∀ (x : List UInt8) (acc v : Nat), digstep x acc = (v : Int) → v < (acc + 1) * 10 ^ x.length
 | [], acc, v, h => by simp only [digstep] at h; simp; omega
 | a :: y, acc, v, h => by
  simp only [digstep] at h
  split at h
  ·rename_i ha
   have := digstep_lt y _ v h
   refine Nat.lt_of_lt_of_le this ?_
   rw [List.length_cons, Nat.pow_succ, Nat.mul_comm (10 ^ y.length) 10, ← Nat.mul_assoc]
   exact Nat.mul_le_mul_right _ (by omega)
  ·omega
theorem digs_of : ∀ (n : Nat) (x : List UInt8), x.length = n → x ≠ [] → (1 < x.length → x.head? ≠ some 48) → ∀ v : Nat, digstep x 0 = (v : Int) → Lib.decDigits v = x
 | 0, x, hn, h0, _, v, h => absurd (List.eq_nil_of_length_eq_zero hn) h0
 | n + 1, x, hn, h0, hh, v, h => by
  obtain ⟨y, c, rfl⟩ : ∃ y c, x = y ++ [c] := ⟨x.dropLast, x.getLast h0, (List.dropLast_concat_getLast h0).symm⟩
  obtain ⟨u, h1, hc, rfl⟩ := digstep_snoc y 0 v h
  rw [List.length_append, List.length_singleton] at hn hh
  have hcc : UInt8.ofNat (48 + (c.toNat - 48)) = c := by
   rw [show 48 + (c.toNat - 48) = c.toNat by omega]
   simp
  cases y with
  | nil =>
   simp only [digstep] at h1
   obtain rfl : u = 0 := by omega
   rw [Lib.decDigits, dif_pos (by omega)]
   simp only [Nat.zero_mul, Nat.zero_add, hcc, List.nil_append]
  | cons a z =>
   have hh' := hh (by simp)
   have ih := digs_of n (a :: z) (by omega) (by simp) (fun _ => by simpa using hh') u h1
   have hu : u ≠ 0 := by
    intro e
    subst e
    rw [Lib.decDigits, dif_pos (by omega)] at ih
    injection ih with e1 e2
    apply hh'
    rw [← e1]
    rfl
   rw [Lib.decDigits, dif_neg (by omega), show (u * 10 + (c.toNat - 48)) / 10 = u by omega, show (u * 10 + (c.toNat - 48)) % 10 = c.toNat - 48 by omega, ih, hcc]
theorem dig_inv {x : List UInt8} (h : 0 ≤ dig x) : x = Lib.itoa (dig x) ∧ dig x < 1000000000 := by
 obtain ⟨v, hv⟩ : ∃ v : Nat, dig x = (v : Int) := ⟨(dig x).toNat, by omega⟩
 rw [hv]
 unfold dig at hv
 split at hv
 ·omega
 ·rename_i hb
  have hb1 : ¬ x = [] := fun e => hb (.inl e)
  have hb2 : ¬ 9 < x.length := fun e => hb (.inr (.inl e))
  have hb3 : 1 < x.length → x.head? ≠ some 48 := fun e1 e2 => hb (.inr (.inr ⟨e1, e2⟩))
  refine ⟨?_, ?_⟩
  ·rw [Lib.itoa_nonneg]
   exact (digs_of _ x rfl hb1 hb3 v hv).symm
  ·have h1 := digstep_lt x 0 v hv
   have h2 : 10 ^ x.length ≤ 10 ^ 9 := Nat.pow_le_pow_right (by omega) (by omega)
   omega
theorem okS_itoa {x : List UInt8} (h : okS x = true) : x = Lib.itoa (num x) ∧ 0 ≤ num x := by
 unfold okS num at *
 cases hx : Lib.atoiAll x with
 | ok v =>
  rw [hx] at h
  simp only [Bool.and_eq_true, beq_iff_eq, decide_eq_true_eq] at h
  exact ⟨h.1.symm, h.2⟩
 | _ => rw [hx] at h; simp at h
theorem itoa_okS {n : Int} (h0 : 0 ≤ n) (h : n ≤ 1048576) : okS (Lib.itoa n) = true ∧ num (Lib.itoa n) = n := by
 obtain ⟨v, rfl⟩ : ∃ v : Nat, n = (v : Int) := ⟨n.toNat, by omega⟩
 refine ⟨?_, num_itoa v (by omega)⟩
 unfold okS
 rw [atoi_itoa v (by omega)]
 simp
theorem itoa_nb {n : Int} (h0 : 0 ≤ n) : (32 : UInt8) ∉ Lib.itoa n := by
 obtain ⟨v, rfl⟩ : ∃ v : Nat, n = (v : Int) := ⟨n.toNat, by omega⟩
 exact itoa_no_blank v
theorem itoa_inj {n m : Int} (hn : 0 ≤ n ∧ n ≤ 1048576) (hm : 0 ≤ m ∧ m ≤ 1048576) (h : Lib.itoa n = Lib.itoa m) : n = m := by
 have h1 := (itoa_okS hn.1 hn.2).2
 have h2 := (itoa_okS hm.1 hm.2).2
 rw [h, h2] at h1
 exact h1.symm
/-! ### words -/
theorem spl_one {x : List UInt8} (h : (32 : UInt8) ∉ x) : spl x = [x] := by
 unfold spl
 cases hl : x.length with
 | zero => simp [Lib.splitK]
 | succ k => rw [Lib.splitK, if_pos (by rw [index_no_blank x h]; rfl)]
theorem spl_two {x : List UInt8} (h : (32 : UInt8) ∉ x) (y : List UInt8) : spl (x ++ 32 :: y) = x :: spl y := by
 have hi := index_blank x y h
 have e : (x ++ 32 :: y).length = (x.length + y.length) + 1 := by rw [List.length_append, List.length_cons]; omega
 unfold spl
 rw [e, Lib.splitK, if_neg (by rw [hi]; simp), hi]
 have e1 : (x ++ 32 :: y).take (x.length : Int).toNat = x := by simp
 have e2 : (x ++ 32 :: y).drop ((x.length : Int).toNat + ([32] : List UInt8).length) = y := by
  simp [← List.drop_drop]
 obtain ⟨h1, h2, h3⟩ := splitK_count (y.length + 1) y (by omega)
 rw [e2, h3 (x.length + y.length) (by omega), h3 y.length (by omega), Nat.add_zero, e1]
theorem spl_ne (l : List UInt8) : spl l ≠ [] := by
 have := (spl_count l).2
 intro e
 rw [e] at this
 simp at this
theorem spl_cut (l : List UInt8) : ((32 : UInt8) ∉ l ∧ spl l = [l]) ∨ ((32 : UInt8) ∉ wd l ∧ l = wd l ++ 32 :: rs l ∧ spl l = wd l :: spl (rs l)) := by
 rcases wd_split l with ⟨h, _, _⟩ | ⟨h, e⟩
 ·exact .inl ⟨h, spl_one h⟩
 ·refine .inr ⟨h, e, ?_⟩
  have := spl_two h (rs l)
  rwa [← e] at this
def small1 (n : Int) : Prop := 0 ≤ n ∧ n ≤ 1048576
theorem word_num {x : List UInt8} (h : okS x = true ∧ num x ≤ 1048576) : small1 (num x) ∧ x = Lib.itoa (num x) := ⟨⟨(okS_itoa h.1).2, h.2⟩, (okS_itoa h.1).1⟩
def numsOk' (ws : List (List UInt8)) : Prop := ∀ (i : Nat) (x : List UInt8), ws[i]? = some x → okS x = true ∧ num x ≤ 1048576
theorem nums_one (l : List UInt8) : (numsOk' (spl l) ∧ ((spl l).length : Int) = 1) ↔ ∃ n, small1 n ∧ l = Lib.itoa n := by
 constructor
 ·rintro ⟨h1, h2⟩
  rcases spl_cut l with ⟨_, e⟩ | ⟨_, _, e⟩
  ·obtain ⟨g1, g2⟩ := word_num (h1 0 l (by rw [e]; rfl))
   exact ⟨_, g1, g2⟩
  ·rw [e] at h2
   have := spl_ne (rs l)
   cases hs : spl (rs l) with
   | nil => exact absurd hs this
   | cons a b => rw [hs] at h2; simp at h2; omega
 ·rintro ⟨n, hn, rfl⟩
  rw [spl_one (itoa_nb hn.1)]
  refine ⟨fun i x hx => ?_, rfl⟩
  have : i = 0 := by
   have := (List.getElem?_eq_some_iff.1 hx).1
   simpa using this
  subst this
  cases hx
  obtain ⟨g1, g2⟩ := itoa_okS hn.1 hn.2
  exact ⟨g1, by rw [g2]; exact hn.2⟩
def tri (a b c : Int) : List UInt8 := Lib.itoa a ++ 32 :: (Lib.itoa b ++ 32 :: Lib.itoa c)
theorem spl_tri {a b c : Int} (ha : small1 a) (hb : small1 b) (hc : small1 c) : spl (tri a b c) = [Lib.itoa a, Lib.itoa b, Lib.itoa c] := by
 unfold tri
 rw [spl_two (itoa_nb ha.1), spl_two (itoa_nb hb.1), spl_one (itoa_nb hc.1)]
theorem nums_three (l : List UInt8) : (numsOk' (spl l) ∧ ((spl l).length : Int) = 3) ↔ ∃ a b c, (small1 a ∧ small1 b ∧ small1 c) ∧ l = tri a b c := by
 constructor
 ·rintro ⟨h1, h2⟩
  rcases spl_cut l with ⟨_, e⟩ | ⟨_, e0, e⟩
  ·rw [e] at h2; simp at h2
  ·rcases spl_cut (rs l) with ⟨_, f⟩ | ⟨_, f0, f⟩
   ·rw [e, f] at h2; simp at h2
   ·rcases spl_cut (rs (rs l)) with ⟨_, g⟩ | ⟨_, _, g⟩
    ·rw [e, f, g] at h1
     obtain ⟨a1, a2⟩ := word_num (h1 0 _ rfl)
     obtain ⟨b1, b2⟩ := word_num (h1 1 _ rfl)
     obtain ⟨c1, c2⟩ := word_num (h1 2 _ rfl)
     exact ⟨_, _, _, ⟨a1, b1, c1⟩, by rw [tri, ← a2, ← b2, ← c2, ← f0]; exact e0⟩
    ·rw [e, f, g] at h2
     have := spl_ne (rs (rs (rs l)))
     cases hs : spl (rs (rs (rs l))) with
     | nil => exact absurd hs this
     | cons a b => rw [hs] at h2; simp at h2; omega
 ·rintro ⟨a, b, c, ⟨ha, hb, hc⟩, rfl⟩
  rw [spl_tri ha hb hc]
  refine ⟨fun i x hx => ?_, rfl⟩
  have ok : ∀ n, small1 n → okS (Lib.itoa n) = true ∧ num (Lib.itoa n) ≤ 1048576 := fun n hn => by
   obtain ⟨g1, g2⟩ := itoa_okS hn.1 hn.2
   exact ⟨g1, by rw [g2]; exact hn.2⟩
  match i, hx with
  | 0, hx => cases hx; exact ok _ ha
  | 1, hx => cases hx; exact ok _ hb
  | 2, hx => cases hx; exact ok _ hc
/-! ### steps -/
def fst3 (k : Nat) : List UInt8 := if k = 0 then [112, 97, 103, 101, 115] else if k = 1 then [99, 97, 99, 104, 101] else [99, 97, 112]
def setK (k : Nat) (n : Int) (s : Sc) : Sc := if k = 0 then { s with pages := n } else if k = 1 then { s with cache := n } else { s with cap := n }
def Pre (k : Nat) (s : Sc) (l : List UInt8) (s1 : Sc) : Prop :=
 (k < 3 ∧ ∃ n, small1 n ∧ l = fst3 k ++ 32 :: Lib.itoa n ∧ s1 = setK k n s) ∨
 (3 ≤ k ∧ s.ss = [] ∧ s.ac = [] ∧ ∃ x : Fo, (small1 x.f ∧ small1 x.t ∧ small1 x.n) ∧ l = [102, 111, 108, 100] ++ 32 :: tri x.f x.t x.n ∧ s1 = { s with fl := s.fl ++ [x] }) ∨
 (3 ≤ k ∧ s.ac = [] ∧ ∃ b, (wd l = [115, 116, 111, 112] ∧ rs l = quote b false) ∧ s1 = { s with ss := s.ss ++ [b] }) ∨
 (3 ≤ k ∧ ∃ a, may a ∧ line a = l ∧ s1 = { s with ac := s.ac ++ [a] })
theorem nms_kw : ∀ i, i < 15 → nms.getD i [] ≠ [102, 111, 108, 100] ∧ nms.getD i [] ≠ [115, 116, 111, 112] := by decide
theorem act_kw {a : A} (h : may a) : wd (line a) ≠ [102, 111, 108, 100] ∧ wd (line a) ≠ [115, 116, 111, 112] := by
 rw [(fields_cut a).1]
 exact nms_kw a.d.toNat (by obtain ⟨h1, h2, _⟩ := h; omega)
theorem wd_fold (y : List UInt8) : wd ([102, 111, 108, 100] ++ 32 :: y) = [102, 111, 108, 100] ∧ rs ([102, 111, 108, 100] ++ 32 :: y) = y := wd_hit (by decide) y
theorem fst3_nb (k : Nat) : (32 : UInt8) ∉ fst3 k := by
 unfold fst3
 split
 ·decide
 ·split <;> decide
theorem tri_inj {a b c a' b' c' : Int} (ha : small1 a) (hb : small1 b) (hc : small1 c) (ha' : small1 a') (hb' : small1 b') (hc' : small1 c') (h : tri a b c = tri a' b' c') : a = a' ∧ b = b' ∧ c = c' := by
 have := spl_tri ha hb hc
 rw [h, spl_tri ha' hb' hc'] at this
 injection this with e1 e2
 injection e2 with e2 e3
 injection e3 with e3 _
 exact ⟨itoa_inj ha ha' e1.symm, itoa_inj hb hb' e2.symm, itoa_inj hc hc' e3.symm⟩
theorem says_y {a : A} {l : List UInt8} (h1 : may a) (h2 : line a = l) : Says l a true := ⟨fun _ => ⟨h1, h2⟩, fun h => (Bool.noConfusion h)⟩
theorem Pre.one {k : Nat} {s : Sc} {l : List UInt8} {a b : Sc} (h : Pre k s l a) (g : Pre k s l b) : a = b := by
 rcases h with ⟨hk, n, hn, rfl, rfl⟩ | ⟨hk, h1, h2, x, hx, rfl, rfl⟩ | ⟨hk, h1, x, ⟨hw, hr⟩, rfl⟩ | ⟨hk, x, hx, rfl, rfl⟩
 ·rcases g with ⟨_, m, hm, e, rfl⟩ | ⟨gk, _⟩ | ⟨gk, _⟩ | ⟨gk, _⟩
  ·have e1 := congrArg rs e
   rw [(wd_hit (fst3_nb k) _).2, (wd_hit (fst3_nb k) _).2] at e1
   rw [itoa_inj hn hm e1]
  ·omega
  ·omega
  ·omega
 ·rcases g with ⟨gk, _⟩ | ⟨_, _, _, y, hy, e, rfl⟩ | ⟨_, _, y, ⟨gw, gr⟩, rfl⟩ | ⟨_, y, hy, e, rfl⟩
  ·omega
  ·have e1 := congrArg rs e
   rw [(wd_fold _).2, (wd_fold _).2] at e1
   obtain ⟨g1, g2, g3⟩ := tri_inj hx.1 hx.2.1 hx.2.2 hy.1 hy.2.1 hy.2.2 e1
   obtain ⟨x1, x2, x3⟩ := x
   obtain ⟨y1, y2, y3⟩ := y
   simp only at g1 g2 g3
   rw [g1, g2, g3]
  ·rw [(wd_fold _).1] at gw
   simp at gw
  ·have := (act_kw hy).1
   rw [e, (wd_fold _).1] at this
   exact absurd rfl this
 ·rcases g with ⟨gk, _⟩ | ⟨_, _, _, y, hy, e, rfl⟩ | ⟨_, _, y, ⟨gw, gr⟩, rfl⟩ | ⟨_, y, hy, e, rfl⟩
  ·omega
  ·rw [e, (wd_fold _).1] at hw
   simp at hw
  ·have e2 := uq_quote x false
   rw [← hr, gr, uq_quote] at e2
   injection e2 with e2
   rw [e2]
  ·rw [← e] at hw
   exact absurd hw (act_kw hy).2
 ·rcases g with ⟨gk, _⟩ | ⟨_, _, _, y, hy, e, rfl⟩ | ⟨_, _, y, ⟨gw, gr⟩, rfl⟩ | ⟨_, y, hy, e, rfl⟩
  ·omega
  ·have := (act_kw hx).1
   rw [e, (wd_fold _).1] at this
   exact absurd rfl this
  ·exact absurd gw (act_kw hx).2
  ·rw [(says_one (says_y hx rfl) (says_y hy e)).2 rfl]
def Step (k : Nat) (s : Sc) (l : List UInt8) (s1 : Sc) : Prop := Pre k s l s1 ∧ scOk s1
theorem Pre.no {k : Nat} {s : Sc} {l : List UInt8} {s1 : Sc} (h : Pre k s l s1) (hn : ¬ scOk s1) : ¬ ∃ s2, Step k s l s2 := fun ⟨s2, h1, h2⟩ => hn (h.one h1 ▸ h2)
def s0 : Sc := ⟨8, 2, [], [], 1, []⟩
def z0 : Sc := ⟨0, 0, [], [], 0, []⟩
inductive Pfx (L : List (Nat × List UInt8)) : Nat → Sc → Prop
 | start : Pfx L 0 s0
 | more {k : Nat} {s s1 : Sc} {m : Nat} {l : List UInt8} : Pfx L k s → L[k]? = some (m, l) → Step k s l s1 → Pfx L (k + 1) s1
theorem Pfx.one {L : List (Nat × List UInt8)} {k : Nat} {a b : Sc} (h : Pfx L k a) (g : Pfx L k b) : a = b := by
 induction h generalizing b with
 | start => cases g; rfl
 | more h1 h2 h3 ih =>
  cases g with
  | more g1 g2 g3 =>
   obtain rfl := ih g1
   rw [h2] at g2
   injection g2 with g2
   injection g2 with _ g2
   subst g2
   exact h3.1.one g3.1
theorem Pfx.upto {L : List (Nat × List UInt8)} {k : Nat} {a : Sc} (h : Pfx L k a) : ∀ j, j ≤ k → ∃ b, Pfx L j b := by
 induction h with
 | start =>
  intro j hj
  obtain rfl : j = 0 := by omega
  exact ⟨s0, .start⟩
 | @more k s s1 m l h1 h2 h3 ih =>
  intro j hj
  rcases Nat.lt_or_ge j (k + 1) with h | h
  ·exact ih j (by omega)
  ·obtain rfl : j = k + 1 := by omega
   exact ⟨_, .more h1 h2 h3⟩
theorem Pfx.no {L : List (Nat × List UInt8)} {k m : Nat} {s : Sc} {l : List UInt8} (h : Pfx L k s) (hx : L[k]? = some (m, l)) (hn : ¬ ∃ s1, Step k s l s1) {j : Nat} (hj : k < j) {b : Sc} (g : Pfx L j b) : False := by
 obtain ⟨c, hc⟩ := g.upto (k + 1) hj
 cases hc with
 | more g1 g2 g3 =>
  obtain rfl := h.one g1
  rw [hx] at g2
  injection g2 with g2
  injection g2 with _ g2
  subst g2
  exact hn ⟨_, g3⟩
def POut (t : List UInt8) (L : List (Nat × List UInt8)) (N : Nat) (s : Sc) (n c : Int) : Prop :=
 (65536 < t.length ∧ s = z0 ∧ n = 0 ∧ c = 3) ∨ (t.length ≤ 65536 ∧ (
  (∃ (k : Nat) (sk : Sc) (m : Nat) (l : List UInt8), Pfx L k sk ∧ L[k]? = some (m, l) ∧ (¬ ∃ s1, Step k sk l s1) ∧ s = z0 ∧ n = (m : Int) ∧ c = 270) ∨
  (∃ sk, Pfx L L.length sk ∧ L.length < 3 ∧ s = z0 ∧ n = (N : Int) + 1 ∧ c = 270) ∨
  (Pfx L L.length s ∧ 3 ≤ L.length ∧ n = 0 ∧ c = 0)))
theorem POut.one {t : List UInt8} {L : List (Nat × List UInt8)} {N : Nat} {s s' : Sc} {n n' c c' : Int} (h : POut t L N s n c) (g : POut t L N s' n' c') : s = s' ∧ n = n' ∧ c = c' := by
 rcases h with ⟨h0, rfl, rfl, rfl⟩ | ⟨h0, h⟩
 ·rcases g with ⟨g0, rfl, rfl, rfl⟩ | ⟨g0, g⟩
  ·exact ⟨rfl, rfl, rfl⟩
  ·omega
 rcases g with ⟨g0, rfl, rfl, rfl⟩ | ⟨g0, g⟩
 ·omega
 have bad : ∀ {k : Nat} {sk : Sc} {m : Nat} {l : List UInt8} {b : Sc}, Pfx L k sk → L[k]? = some (m, l) → (¬ ∃ s1, Step k sk l s1) → Pfx L L.length b → False := fun h1 h2 h3 h4 => h1.no h2 h3 (List.getElem?_eq_some_iff.1 h2).1 h4
 rcases h with ⟨k, sk, m, l, h1, h2, h3, rfl, rfl, rfl⟩ | ⟨sk, h1, h2, rfl, rfl, rfl⟩ | ⟨h1, h2, rfl, rfl⟩ <;>
  rcases g with ⟨k', sk', m', l', g1, g2, g3, rfl, rfl, rfl⟩ | ⟨sk', g1, g2, rfl, rfl, rfl⟩ | ⟨g1, g2, rfl, rfl⟩
 ·rcases Nat.lt_trichotomy k k' with e | e | e
  ·exact (h1.no h2 h3 e g1).elim
  ·subst e
   rw [h2] at g2
   injection g2 with g2
   injection g2 with g2 _
   rw [g2]
   exact ⟨rfl, rfl, rfl⟩
  ·exact (g1.no g2 g3 e h1).elim
 ·exact (bad h1 h2 h3 g1).elim
 ·exact (bad h1 h2 h3 g1).elim
 ·exact (bad g1 g2 g3 h1).elim
 ·exact ⟨rfl, rfl, rfl⟩
 ·omega
 ·exact (bad g1 g2 g3 h1).elim
 ·omega
 ·exact ⟨h1.one g1, rfl, rfl⟩
/-! ### what holds on the way -/
structure Inv (k : Nat) (s : Sc) : Prop where
 ok : scOk s
 low : k < 3 → s.fl = [] ∧ s.ss = [] ∧ s.ac = []
theorem s0_ok : scOk s0 := by
 refine ⟨⟨by simp [s0], by simp [s0], ⟨⟨by simp [s0], fun i hi => by simp [s0] at hi, fun i hi => by simp [s0] at hi⟩, by simp [s0], by simp [s0], fun i hi => by simp [s0] at hi⟩, by simp [s0, slen]⟩, by simp [s0], fun i a h => by simp [s0] at h⟩
theorem Pre.low {k : Nat} {s s1 : Sc} {l : List UInt8} (h : Pre k s l s1) (hk : k < 3) : s1.fl = s.fl ∧ s1.ss = s.ss ∧ s1.ac = s.ac := by
 rcases h with ⟨_, n, _, _, rfl⟩ | ⟨h, _⟩ | ⟨h, _⟩ | ⟨h, _⟩
 ·unfold setK
  split
  ·exact ⟨rfl, rfl, rfl⟩
  ·split <;> exact ⟨rfl, rfl, rfl⟩
 ·omega
 ·omega
 ·omega
theorem Pfx.inv {L : List (Nat × List UInt8)} {k : Nat} {s : Sc} (h : Pfx L k s) : Inv k s := by
 induction h with
 | start => exact ⟨s0_ok, fun _ => ⟨rfl, rfl, rfl⟩⟩
 | more h1 h2 h3 ih =>
  refine ⟨h3.2, fun hk => ?_⟩
  obtain ⟨e1, e2, e3⟩ := h3.1.low (by omega)
  obtain ⟨g1, g2, g3⟩ := ih.low (by omega)
  exact ⟨e1.trans g1, e2.trans g2, e3.trans g3⟩
end Go.Proofs.YtkcechpaeilaeaaGreatDoor
namespace Go.Proofs.YtkcechpaeilaeaaGreatDoor
open Go.RowKit
set_option maxRecDepth 100000
def numsOk (l : List UInt8) : Prop := ∀ (i : Nat) (x : List UInt8), (spl l)[i]? = some x → okS x = true ∧ num x ≤ 1048576
def ivs (l : List (List UInt8)) : List Value := l.map (fun x => Value.int .i64 (num x))
theorem ivs_take {l : List (List UInt8)} {k : Nat} {x : List UInt8} (h : l[k]? = some x) : ivs (l.take (k + 1)) = ivs (l.take k) ++ [.int .i64 (num x)] := by
 obtain ⟨h1, rfl⟩ := List.getElem?_eq_some_iff.1 h
 unfold ivs
 rw [List.take_succ_eq_append_getElem h1, List.map_append]
 rfl
theorem info3b : (Tryz.prog.info? 3).map (fun i => (i.zero, i.size, i.bytes)) = some (some (.int .i64 0), 1, 8) := by kernel_rfl
def NuR (l : List UInt8) (many : Int) (w w' : World) (e : Ending) : Prop :=
 (∃ v b, e = .returned (.tuple #[v, .bool b]) ∧ (b = true ↔ (numsOk l ∧ ((spl l).length : Int) = many)) ∧ (b = true → ∃ g c, v = .slice (some ⟨g, 0, none⟩) (spl l).length c ∧ w.heap.size ≤ g ∧ w'.rangeAt g 0 (ivs (spl l)))) ∧ KZ w w'
structure Nu (l : List UInt8) (w1 wr : World) (v : Value) (k : Nat) : Prop where
 row : Or w1.heap.size 3 1 wr v k (ivs ((spl l).take k))
 kp : KZ w1 wr
 ok : ∀ (i : Nat) (x : List UInt8), i < k → (spl l)[i]? = some x → okS x = true ∧ num x ≤ 1048576
theorem Nu.add {l : List UInt8} {w1 wr wr' w' : World} {v v' : Value} {k : Nat} {x : List UInt8} (h : Nu l w1 wr v k) (hx : (spl l)[k]? = some x) (hk : okS x = true ∧ num x ≤ 1048576) (k1 : KZ w1 wr')
  (ho : Or w1.heap.size 3 1 w' v' (k + 1) (ivs ((spl l).take k) ++ [.int .i64 (num x)])) (hb : Below w1.heap.size wr' w') : Nu l w1 w' v' (k + 1) := by
 refine ⟨by rw [ivs_take hx]; exact ho, k1.andThen (⟨hb.os, hb.tape, hb.output, hb.size, fun i hi hn => hb.block i (by omega)⟩ : Kp (fun k => w1.heap.size ≤ k) wr' w') (fun i h hlt => by omega), fun i y hi hy => ?_⟩
 by_cases e : i = k
 ·subst e; rw [hx] at hy; cases hy; exact hk
 ·exact h.ok i y (by omega) hy
set_option maxHeartbeats 4000000 in
theorem numbers_at (l : List UInt8) (hl : l.length < 70000) (many : Int) {w : World} (hE : Ev w) : Calls Tryz.prog 96 #[.string ⟨l.toArray⟩, .int .i64 many] w fun e w' => NuR l many w w' e := by
 have hsp := Hd.mk (split_at l hl hE)
 have hwl : Hd (∀ (i : Nat) (x : List UInt8), (spl l)[i]? = some x → x.length < 4294967281) := ⟨fun (i : Nat) (x : List UInt8) hx => by have := spl_word l x (List.mem_of_getElem? hx); omega⟩
 have hlen : Hd ((spl l).length ≤ 70002) := ⟨by have := spl_length l; omega⟩
 replace hE := Hd.mk hE
 obtain ⟨N, hN⟩ : ∃ n, (spl l).length = n := ⟨_, rfl⟩
 rw [hN] at hsp hlen
 replace hN := Hd.mk hN
 clear hl
 go_enter Tryz.func96, Tryz.ntmps96
 go_wp2_with fail
 refine hsp.out.mono ?_
 rintro e w1 ⟨rfl, hbl, k1⟩
 replace hbl := Hd.mk hbl
 have K1 := Hd.mk k1
 have E1 := Hd.mk (hE.out.keep k1)
 obtain ⟨B, hB⟩ : ∃ B, Hd (w.heap.size = B) := ⟨_, ⟨rfl⟩⟩
 rw [hB.out] at hbl ⊢
 have h0 : Hd (Nu l w1 w1 (.slice none 0 0) 0) := ⟨⟨Or.nil _ _ _ _, Kp.refl _ _, fun i x hi => absurd hi (Nat.not_lt_zero _)⟩⟩
 clear hsp k1
 go_wp2_with fail
 go_loopw [16, 7] (fun v16 v7 wr => ∃ k : Nat, v16 = .int .i64 k ∧ k ≤ N ∧ Hd (Nu l w1 wr v7 k)) (fun v16 _ _ => N - (intOf v16).toNat)
 case atStart => exact ⟨0, rfl, Nat.zero_le _, h0⟩
 case round =>
  clear h0
  obtain ⟨k, rfl, hk, HK⟩ := hrel
  have hkb : (k : Int) + 1 ≤ 1000001 := by have := hlen.out; omega
  by_cases h1 : k < N
  ·have hltI : (k : Int) < (N : Int) := by omega
   obtain ⟨x, hx⟩ : ∃ x, (spl l)[k]? = some x := ⟨_, List.getElem?_eq_getElem (by rw [hN.out]; exact h1)⟩
   have c1 : wr.cell? ⟨B, k, none⟩ = some (.string ⟨x.toArray⟩) := HK.out.kp.see (by rw [hbl.out.cell k, wcs, List.getElem?_map, hx]; rfl) id
   have hnu := Hd.mk (num_at x (hwl.out k x hx) (E1.out.keep HK.out.kp))
   replace hx := Hd.mk hx
   obtain ⟨q, hq⟩ : ∃ q, Hd (okS x = q) := ⟨_, ⟨rfl⟩⟩
   obtain ⟨z, hz⟩ : ∃ z, Hd (num x = z) := ⟨_, ⟨rfl⟩⟩
   rw [hq.out, hz.out] at hnu
   cases q
   ·go_wp2_with (first | (go_at_call 51; refine hnu.out.mono ?_; rintro e w5 ⟨rfl, k5⟩; have K5 := Hd.mk (HK.out.kp.th k5); clear k5; dsimp only))
    go_ret2
    exact ⟨⟨_, false, rfl, ⟨fun h => (by cases h), fun h => (by have := (h.1 k x hx.out).1; rw [hq.out] at this; cases this)⟩, fun h => (by cases h)⟩, K1.out.th K5.out⟩
   ·by_cases hbig : 1048576 < z
    ·have q5 : Hd (decide ((1048576 : Int) < z) = true) := ⟨decide_eq_true hbig⟩
     replace hbig := Hd.mk hbig
     go_wp2_with (first | (go_at_call 51; refine hnu.out.mono ?_; rintro e w5 ⟨rfl, k5⟩; have K5 := Hd.mk (HK.out.kp.th k5); clear k5; dsimp only) | ((with_reducible refine wl_runG ?hw (ex_gtr _ 3 3 (.tmp 28) (.const (.int .i64 1048576)) rfl .i64 z 1048576 rfl rfl true q5.out) ?_); (case hw => rfl); simp only [Act.put, uA, uB, uC]))
     go_ret2
     exact ⟨⟨_, false, rfl, ⟨fun h => (by cases h), fun h => (by have := (h.1 k x hx.out).2; rw [hz.out] at this; have := hbig.out; omega)⟩, fun h => (by cases h)⟩, K1.out.th K5.out⟩
    ·have q5 : Hd (decide ((1048576 : Int) < z) = false) := ⟨decide_eq_false hbig⟩
     have hok : Hd (okS x = true ∧ num x ≤ 1048576) := ⟨hq.out, by rw [hz.out]; omega⟩
     clear hbig
     have hnn : Hd (k ≤ 1000000000) := ⟨by have := hlen.out; omega⟩
     go_wp2_with (first | (go_at_call 51; refine hnu.out.mono ?_; rintro e w5 ⟨rfl, k5⟩; have hO := Hd.mk (HK.out.row.keep (k5.th (kp_alloc w5 (.cells #[.int .i64 z] 3)))); have K5 := Hd.mk (HK.out.kp.th (k5.th (kp_alloc w5 (.cells #[.int .i64 z] 3)))); clear k5; dsimp only) | ((with_reducible refine wl_runG ?hw (ex_gtr _ 3 3 (.tmp 28) (.const (.int .i64 1048576)) rfl .i64 z 1048576 rfl rfl false q5.out) ?_); (case hw => rfl); simp only [Act.put, uA, uB, uC]) | ((with_reducible refine wl_or rfl (.tmp 31) (.tmp 33) 97 rfl 3 1 8 Tryz.underlying97 info3b rfl (by decide) (by decide) _ _ _ rfl hO.out K5.out.size w5.heap.size 1 [.int .i64 z] rfl rfl (one_new _ _ _) (by simp [Value.oneCell']) hnn.out ?_); intro v6 w6 ho hb2; have hN6 := Hd.mk (HK.out.add hx.out hok.out K5.out (by rw [hz.out]; exact ho) hb2); clear ho hb2))
     exact ⟨⟨k + 1, by go_num, by omega, hN6⟩, by simp [intOf]; omega⟩
  ·have hltI : ¬ (k : Int) < (N : Int) := by omega
   obtain rfl : k = N := by omega
   have hrow := HK.out.row
   have hall : Hd (numsOk l) := ⟨fun i x hx => HK.out.ok i x (by have := (List.getElem?_eq_some_iff.1 hx).1; have := hN.out; omega) hx⟩
   obtain ⟨A, c, rfl, hc⟩ := hrow.slice
   obtain ⟨q, hq⟩ : ∃ q, Hd (decide ((k : Int) = many) = q) := ⟨_, ⟨rfl⟩⟩
   replace hrow := Hd.mk hrow
   have KF := Hd.mk (K1.out.th HK.out.kp)
   have hk0 : Hd (0 < k) := ⟨by have := (spl_count l).2; have := hN.out; omega⟩
   clear HK
   go_wp2_with ((with_reducible refine wl_run rfl (ex_eql _ 3 3 (.tmp 38) (.tmp 39) rfl .i64 (k : Int) many rfl rfl q hq.out) ?_); simp only [Act.put, uA, uB, uC])
   go_ret2
   obtain ⟨g, rfl, hr, hg, _⟩ := hrow.out.at hk0.out
   rw [List.take_of_length_le (by rw [hN.out]; exact Nat.le_refl _)] at hr
   refine ⟨⟨_, q, rfl, ⟨fun h => ⟨hall.out, ?_⟩, fun h => ?_⟩, fun h => ⟨g, c, by rw [hN.out]; rfl, Nat.le_trans K1.out.size hg, hr⟩⟩, KF.out⟩
   ·subst h
    rw [hN.out]
    exact of_decide_eq_true hq.out
   ·rw [← hq.out]
    have := h.2
    rw [hN.out] at this
    exact decide_eq_true this
end Go.Proofs.YtkcechpaeilaeaaGreatDoor
namespace Go.Proofs.YtkcechpaeilaeaaGreatDoor
open Go.RowKit
theorem Or.keepS {S : Nat → Prop} {b : Nat} {e : TypeId} {size n : Nat} {w w' : World} {v : Value} {xs : List Value} (h : Or b e size w v n xs) (hk : Kp S w w') (hn : ∀ k, v.ownBlock = some k → ¬ S k) : Or b e size w' v n xs :=
 ⟨ownsRow_keep h.own (fun k hk' hs => hk.block k hs (hn k hk')), h.new⟩
theorem bs_keepS {S : Nat → Prop} {w w' : World} {v : Value} {l : List Int} (h : Bs w v l) (hk : Kp S w w') (hn : ∀ k, v.ownBlock = some k → ¬ S k) : Bs w' v l := Bs.keep h (fun b hb ho => hk.block b hb (hn b ho))
theorem Or.lt {b : Nat} {e : TypeId} {size n : Nat} {w : World} {v : Value} {xs : List Value} (h : Or b e size w v n xs) : ∀ k, v.ownBlock = some k → k < w.heap.size := by
 intro k hk
 rcases h.own.2 with ⟨rfl, _⟩ | ⟨g, cap, cur, rfl, _, hh, _⟩
 ·cases hk
 ·injection hk with hk
  subst hk
  exact blk_lt hh
def arow (a : A) (At : Option Addr) (ct : Nat) (Ap : Option Addr) (cp : Nat) : List Value := [.int .i64 a.d, .string ⟨a.k.toArray⟩, .slice At a.t.length ct, .int .i64 a.n, .slice Ap a.p.length cp]
structure Off (R : Nat) (VF VS VA : Value) (w : World) (v : Value) (l : List Int) : Prop where
 bs : Bs w v l
 r : l ≠ [] → v.ownBlock ≠ some R
 f : l ≠ [] → ∀ k, v.ownBlock = some k → VF.ownBlock ≠ some k
 s : l ≠ [] → ∀ k, v.ownBlock = some k → VS.ownBlock ≠ some k
 a : l ≠ [] → ∀ k, v.ownBlock = some k → VA.ownBlock ≠ some k
theorem bs_lt {w : World} {v : Value} {l : List Int} (h : Bs w v l) (hl : l ≠ []) : ∀ k, v.ownBlock = some k → k < w.heap.size := by
 intro k hk
 obtain ⟨A, c, rfl, _, hr⟩ := h
 rcases hr with hr | ⟨g, o, rfl, hr⟩
 ·exact absurd hr hl
 ·injection hk with hk
  subst hk
  exact rangeAt_lt hr (fun e => hl (by
   have := congrArg List.length e
   simp [u8s] at this
   exact this))
theorem bs_keepN {S : Nat → Prop} {w w' : World} {v : Value} {l : List Int} (h : Bs w v l) (hk : Kp S w w') (hn : l ≠ [] → ∀ k, v.ownBlock = some k → ¬ S k) : Bs w' v l := by
 by_cases hl : l = []
 ·obtain ⟨A, c, rfl, hc, _⟩ := h
  exact ⟨A, c, rfl, hc, .inl hl⟩
 ·exact bs_keepS h hk (hn hl)
structure Rd (b R : Nat) (w : World) (s : Sc) (st : Int) (VF VS VA : Value) (cs : List Value) : Prop where
 blk : Blk w R [.int .i64 s.pages, .int .i64 s.cache, VF, VS, .int .i64 s.cap, VA, .int .i64 st] 108
 rf : Or b 100 3 w VF s.fl.length (fcl s.fl)
 rs : Or b 9 1 w VS s.ss.length (wcl s.ss)
 ra : Or b 24 5 w VA s.ac.length cs
 acts : ∀ (i : Nat) (a : A), s.ac[i]? = some a → ∃ At ct Ap cp, (∀ j v, (arow a At ct Ap cp)[j]? = some v → cs[i * 5 + j]? = some v) ∧ Off R VF VS VA w (.slice At a.t.length ct) (ints a.t) ∧ Off R VF VS VA w (.slice Ap a.p.length cp) (ints a.p)
 nf : VF.ownBlock ≠ some R
 ns : VS.ownBlock ≠ some R
 na : VA.ownBlock ≠ some R
 fs : ∀ k, VF.ownBlock = some k → VS.ownBlock ≠ some k
 fa : ∀ k, VF.ownBlock = some k → VA.ownBlock ≠ some k
 sa : ∀ k, VS.ownBlock = some k → VA.ownBlock ≠ some k
section
variable {b R : Nat} {w w' : World} {s : Sc} {st : Int} {VF VS VA : Value} {cs : List Value}
theorem Off.keepS {S : Nat → Prop} {v : Value} {l : List Int} (h : Off R VF VS VA w v l) (hk : Kp S w w') (hn : l ≠ [] → ∀ k, v.ownBlock = some k → ¬ S k) : Off R VF VS VA w' v l :=
 ⟨bs_keepN h.bs hk hn, h.r, h.f, h.s, h.a⟩
theorem Off.keep {v : Value} {l : List Int} (h : Off R VF VS VA w v l) (hk : KZ w w') : Off R VF VS VA w' v l := h.keepS hk (fun _ _ _ => id)
theorem Rd.keep (h : Rd b R w s st VF VS VA cs) (hk : KZ w w') : Rd b R w' s st VF VS VA cs :=
 ⟨hk.keeps h.blk id, h.rf.keep hk, h.rs.keep hk, h.ra.keep hk, fun i a ha => by
  obtain ⟨At, ct, Ap, cp, h1, h2, h3⟩ := h.acts i a ha
  exact ⟨At, ct, Ap, cp, h1, h2.keep hk, h3.keep hk⟩, h.nf, h.ns, h.na, h.fs, h.fa, h.sa⟩
theorem Rd.put (h : Rd b R w s st VF VS VA cs) (i : Nat) (v : Value) {s' : Sc} {st' : Int} (e : [.int .i64 s.pages, .int .i64 s.cache, VF, VS, .int .i64 s.cap, VA, .int .i64 st].set i v = [.int .i64 s'.pages, .int .i64 s'.cache, VF, VS, .int .i64 s'.cap, VA, .int .i64 st'])
  (e1 : s'.fl = s.fl) (e2 : s'.ss = s.ss) (e3 : s'.ac = s.ac) : Rd b R (w.setCell ⟨R, i, none⟩ v) s' st' VF VS VA cs := by
 have hk : Kp (· = R) w (w.setCell ⟨R, i, none⟩ v) := (Kp.refl _ w).setCell _ _ (.inr rfl)
 have ne : ∀ {u : Value}, u.ownBlock ≠ some R → ∀ k, u.ownBlock = some k → ¬ k = R := fun hu k hk' e => hu (by rw [← e]; exact hk')
 refine ⟨?_, ?_, ?_, ?_, ?_, h.nf, h.ns, h.na, h.fs, h.fa, h.sa⟩
 ·have := h.blk.set i v
  rw [e] at this
  exact this
 ·rw [e1]; exact h.rf.keepS hk (ne h.nf)
 ·rw [e2]; exact h.rs.keepS hk (ne h.ns)
 ·rw [e3]; exact h.ra.keepS hk (ne h.na)
 ·rw [e3]
  intro i a ha
  obtain ⟨At, ct, Ap, cp, h1, h2, h3⟩ := h.acts i a ha
  exact ⟨At, ct, Ap, cp, h1, h2.keepS hk (fun hl => ne (h2.r hl)), h3.keepS hk (fun hl => ne (h3.r hl))⟩
theorem Rd.c0 (h : Rd b R w s st VF VS VA cs) : w.cell? ⟨R, 0, none⟩ = some (.int .i64 s.pages) := (h.blk.cell 0).trans rfl
theorem Rd.c1 (h : Rd b R w s st VF VS VA cs) : w.cell? ⟨R, 1, none⟩ = some (.int .i64 s.cache) := (h.blk.cell 1).trans rfl
theorem Rd.c2 (h : Rd b R w s st VF VS VA cs) : w.cell? ⟨R, 2, none⟩ = some VF := (h.blk.cell 2).trans rfl
theorem Rd.c3 (h : Rd b R w s st VF VS VA cs) : w.cell? ⟨R, 3, none⟩ = some VS := (h.blk.cell 3).trans rfl
theorem Rd.c4 (h : Rd b R w s st VF VS VA cs) : w.cell? ⟨R, 4, none⟩ = some (.int .i64 s.cap) := (h.blk.cell 4).trans rfl
theorem Rd.c5 (h : Rd b R w s st VF VS VA cs) : w.cell? ⟨R, 5, none⟩ = some VA := (h.blk.cell 5).trans rfl
theorem Rd.c6 (h : Rd b R w s st VF VS VA cs) : w.cell? ⟨R, 6, none⟩ = some (.int .i64 st) := (h.blk.cell 6).trans rfl
theorem Rd.lt (h : Rd b R w s st VF VS VA cs) : R < w.heap.size := blk_lt h.blk
theorem or_fr (h : Or b 100 3 w VF s.fl.length (fcl s.fl)) : Fr w VF s.fl := by
 obtain ⟨A, c, rfl, hc⟩ := h.slice
 refine ⟨A, c, rfl, ?_⟩
 rcases Nat.eq_zero_or_pos s.fl.length with h0 | h0
 ·exact .inl (List.length_eq_zero_iff.1 h0)
 ·obtain ⟨g, rfl, hr, _⟩ := h.at h0
  exact .inr ⟨g, 0, rfl, hr⟩
theorem Rd.ar (h : Rd b R w s st VF VS VA cs) : Ar w VA s.ac := by
 obtain ⟨A, c, e, hc⟩ := h.ra.slice
 have hra := h.ra
 rw [e] at hra
 refine ⟨A, c, e, ?_⟩
 rcases Nat.eq_zero_or_pos s.ac.length with h0 | h0
 ·exact .inl (List.length_eq_zero_iff.1 h0)
 ·obtain ⟨g, rfl, hr, _⟩ := hra.at h0
  refine .inr ⟨g, 0, rfl, fun i a ha => ?_⟩
  obtain ⟨At, ct, Ap, cp, h1, h2, h3⟩ := h.acts i a ha
  refine ⟨At, ct, Ap, cp, fun j v hv => ?_, h2.bs, h3.bs⟩
  have := hr _ v (h1 j v hv)
  rw [← Nat.add_assoc] at this
  exact this
theorem Rd.scr (h : Rd b R w s st VF VS VA cs) : ∃ (F S X : Option Addr) (cF cS cA : Nat), VF = .slice F s.fl.length cF ∧ VS = .slice S s.ss.length cS ∧ VA = .slice X s.ac.length cA ∧ ScR w s F cF S cS X cA := by
 obtain ⟨F, cF, e1, _⟩ := h.rf.slice
 obtain ⟨S, cS, e2, _⟩ := h.rs.slice
 obtain ⟨X, cA, e3, _⟩ := h.ra.slice
 refine ⟨F, S, X, cF, cS, cA, e1, e2, e3, ⟨?_, ?_, ?_⟩⟩
 ·rw [← e1]; exact or_fr h.rf
 ·rw [← e2]; exact h.rs.wos
 ·rw [← e3]; exact h.ar
structure Grew (v v' : Value) (w w' : World) : Prop where
 kp : Kp (fun k => v.ownBlock = some k) w w'
 own : ∀ k, v'.ownBlock = some k → v.ownBlock = some k ∨ w.heap.size ≤ k
theorem Rd.fold (h : Rd b R w s st VF VS VA cs) {V : Value} {x : Fo} (hg : Grew VF V w w') (ho : Or b 100 3 w' V (s.fl.length + 1) (fcl s.fl ++ [.int .i32 x.f, .int .i32 x.t, .int .i64 x.n])) :
  Rd b R (w'.setCell ⟨R, 2, none⟩ V) { s with fl := s.fl ++ [x] } st V VS VA cs := by
 have neF : ∀ {u : Value}, (∀ k, VF.ownBlock = some k → u.ownBlock ≠ some k) → ∀ k, u.ownBlock = some k → ¬ VF.ownBlock = some k := fun hu k hk e => hu k e hk
 have hk : Kp (· = R) w' (w'.setCell ⟨R, 2, none⟩ V) := (Kp.refl _ w').setCell _ _ (.inr rfl)
 have ne : ∀ {u : Value}, u.ownBlock ≠ some R → ∀ k, u.ownBlock = some k → ¬ k = R := fun hu k hk' e => hu (by rw [← e]; exact hk')
 have nV : V.ownBlock ≠ some R := fun e => (hg.own R e).elim h.nf (fun e => by have := h.lt; omega)
 have new : ∀ {u : Value}, (∀ k, u.ownBlock = some k → k < w.heap.size) → (∀ k, VF.ownBlock = some k → u.ownBlock ≠ some k) → ∀ k, V.ownBlock = some k → u.ownBlock ≠ some k := fun hlt hne k e e2 => (hg.own k e).elim (fun e3 => hne k e3 e2) (fun e3 => by have := hlt k e2; omega)
 have hb1 : Blk w' R [.int .i64 s.pages, .int .i64 s.cache, VF, VS, .int .i64 s.cap, VA, .int .i64 st] 108 := hg.kp.keeps h.blk h.nf
 refine ⟨?_, ?_, (h.rs.keepS hg.kp (neF h.fs)).keepS hk (ne h.ns), (h.ra.keepS hg.kp (neF h.fa)).keepS hk (ne h.na), ?_, nV, h.ns, h.na, new h.rs.lt h.fs, new h.ra.lt h.fa, h.sa⟩
 ·exact hb1.set 2 V
 ·have e : fcl (s.fl ++ [x]) = fcl s.fl ++ [.int .i32 x.f, .int .i32 x.t, .int .i64 x.n] := by simp [fcl]
  simp only [e, List.length_append, List.length_singleton]
  exact ho.keepS hk (ne nV)
 ·intro i a ha
  obtain ⟨At, ct, Ap, cp, h1, h2, h3⟩ := h.acts i a ha
  have tr : ∀ {v : Value} {l : List Int}, Off R VF VS VA w v l → Off R V VS VA (w'.setCell ⟨R, 2, none⟩ V) v l := fun {v l} g => by
   have g2 := (g.keepS hg.kp (fun hl k e e2 => g.f hl k e e2)).keepS hk (fun hl => ne (g.r hl))
   exact ⟨g2.bs, g.r, fun hl k e e2 => (hg.own k e2).elim (fun e3 => g.f hl k e e3) (fun e3 => by have := bs_lt g.bs hl k e; omega), g.s, g.a⟩
  exact ⟨At, ct, Ap, cp, h1, tr h2, tr h3⟩
theorem Rd.word (h : Rd b R w s st VF VS VA cs) {V : Value} {x : List UInt8} (hg : Grew VS V w w') (ho : Or b 9 1 w' V (s.ss.length + 1) (wcl s.ss ++ [.string ⟨x.toArray⟩])) :
  Rd b R (w'.setCell ⟨R, 3, none⟩ V) { s with ss := s.ss ++ [x] } st VF V VA cs := by
 have hk : Kp (· = R) w' (w'.setCell ⟨R, 3, none⟩ V) := (Kp.refl _ w').setCell _ _ (.inr rfl)
 have ne : ∀ {u : Value}, u.ownBlock ≠ some R → ∀ k, u.ownBlock = some k → ¬ k = R := fun hu k hk' e => hu (by rw [← e]; exact hk')
 have nV : V.ownBlock ≠ some R := fun e => (hg.own R e).elim h.ns (fun e => by have := h.lt; omega)
 have hb1 : Blk w' R [.int .i64 s.pages, .int .i64 s.cache, VF, VS, .int .i64 s.cap, VA, .int .i64 st] 108 := hg.kp.keeps h.blk h.ns
 refine ⟨hb1.set 3 V, (h.rf.keepS hg.kp (fun k e e2 => h.fs k e e2)).keepS hk (ne h.nf), ?_, (h.ra.keepS hg.kp (fun k e e2 => h.sa k e2 e)).keepS hk (ne h.na), ?_, h.nf, nV, h.na, ?_, h.fa, ?_⟩
 ·simp only [wcl_app, List.length_append, List.length_singleton]
  exact ho.keepS hk (ne nV)
 ·intro i a ha
  obtain ⟨At, ct, Ap, cp, h1, h2, h3⟩ := h.acts i a ha
  have tr : ∀ {v : Value} {l : List Int}, Off R VF VS VA w v l → Off R VF V VA (w'.setCell ⟨R, 3, none⟩ V) v l := fun {v l} g => by
   have g2 := (g.keepS hg.kp (fun hl k e e2 => g.s hl k e e2)).keepS hk (fun hl => ne (g.r hl))
   exact ⟨g2.bs, g.r, g.f, fun hl k e e2 => (hg.own k e2).elim (fun e3 => g.s hl k e e3) (fun e3 => by have := bs_lt g.bs hl k e; omega), g.a⟩
  exact ⟨At, ct, Ap, cp, h1, tr h2, tr h3⟩
 ·exact fun k e e2 => (hg.own k e2).elim (fun e3 => h.fs k e e3) (fun e3 => by have := h.rf.lt k e; omega)
 ·exact fun k e e2 => (hg.own k e).elim (fun e3 => h.sa k e3 e2) (fun e3 => by have := h.ra.lt k e2; omega)
theorem Rd.act (h : Rd b R w s st VF VS VA cs) {V : Value} {x : A} {At Ap : Option Addr} {ct cp : Nat} (hg : Grew VA V w w') (ho : Or b 24 5 w' V (s.ac.length + 1) (cs ++ arow x At ct Ap cp))
  (hT : Off R VF VS VA w (.slice At x.t.length ct) (ints x.t)) (hP : Off R VF VS VA w (.slice Ap x.p.length cp) (ints x.p)) :
  Rd b R (w'.setCell ⟨R, 5, none⟩ V) { s with ac := s.ac ++ [x] } st VF VS V (cs ++ arow x At ct Ap cp) := by
 have hk : Kp (· = R) w' (w'.setCell ⟨R, 5, none⟩ V) := (Kp.refl _ w').setCell _ _ (.inr rfl)
 have ne : ∀ {u : Value}, u.ownBlock ≠ some R → ∀ k, u.ownBlock = some k → ¬ k = R := fun hu k hk' e => hu (by rw [← e]; exact hk')
 have nV : V.ownBlock ≠ some R := fun e => (hg.own R e).elim h.na (fun e => by have := h.lt; omega)
 have hb1 : Blk w' R [.int .i64 s.pages, .int .i64 s.cache, VF, VS, .int .i64 s.cap, VA, .int .i64 st] 108 := hg.kp.keeps h.blk h.na
 have tr : ∀ {v : Value} {l : List Int}, Off R VF VS VA w v l → Off R VF VS V (w'.setCell ⟨R, 5, none⟩ V) v l := fun {v l} g => by
  have g2 := (g.keepS hg.kp (fun hl k e e2 => g.a hl k e e2)).keepS hk (fun hl => ne (g.r hl))
  exact ⟨g2.bs, g.r, g.f, g.s, fun hl k e e2 => (hg.own k e2).elim (fun e3 => g.a hl k e e3) (fun e3 => by have := bs_lt g.bs hl k e; omega)⟩
 have hcl : cs.length = s.ac.length * 5 := h.ra.own.1
 refine ⟨hb1.set 5 V, (h.rf.keepS hg.kp (fun k e e2 => h.fa k e e2)).keepS hk (ne h.nf), (h.rs.keepS hg.kp (fun k e e2 => h.sa k e e2)).keepS hk (ne h.ns), ?_, ?_, h.nf, h.ns, nV, h.fs, ?_, ?_⟩
 ·simp only [List.length_append, List.length_singleton]
  exact ho.keepS hk (ne nV)
 ·intro i a ha
  rcases Nat.lt_or_ge i s.ac.length with hi | hi
  ·simp only at ha
   rw [List.getElem?_append_left hi] at ha
   obtain ⟨Bt, dt, Bp, dp, h1, h2, h3⟩ := h.acts i a ha
   refine ⟨Bt, dt, Bp, dp, fun j v hv => ?_, tr h2, tr h3⟩
   have h4 := h1 j v hv
   rw [List.getElem?_append_left (List.getElem?_eq_some_iff.1 h4).1]
   exact h4
  ·simp only at ha
   rw [List.getElem?_append_right hi] at ha
   have h5 : i - s.ac.length = 0 := by
    have := (List.getElem?_eq_some_iff.1 ha).1
    simpa using this
   rw [h5] at ha
   cases ha
   obtain rfl : i = s.ac.length := by omega
   refine ⟨At, ct, Ap, cp, fun j v hv => ?_, tr hT, tr hP⟩
   rw [List.getElem?_append_right (by omega), show s.ac.length * 5 + j - cs.length = j by omega]
   exact hv
 ·exact fun k e e2 => (hg.own k e2).elim (fun e3 => h.fa k e e3) (fun e3 => by have := h.rf.lt k e; omega)
 ·exact fun k e e2 => (hg.own k e2).elim (fun e3 => h.sa k e e3) (fun e3 => by have := h.rs.lt k e; omega)
end
structure Bo (b R : Nat) (w w' : World) : Prop where
 kp : Kp (fun k => k = R ∨ b ≤ k) w w'
 oth : KeepsOthers w w'
theorem Bo.refl (b R : Nat) (w : World) : Bo b R w w := ⟨Kp.refl _ w, KeepsOthers.refl w⟩
theorem Bo.trans {b R : Nat} {x y z : World} (h : Bo b R x y) (g : Bo b R y z) : Bo b R x z := ⟨h.kp.th g.kp, h.oth.trans g.oth⟩
theorem Bo.size {b R : Nat} {w w' : World} (h : Bo b R w w') : w.heap.size ≤ w'.heap.size := h.kp.size
theorem Bo.kpS {S : Nat → Prop} {b R : Nat} {w w' : World} (k : Kp S w w') (hS : ∀ i, S i → (i = R ∨ b ≤ i) ∧ ∃ cur t, w.heap[i]? = some (.cells cur t (0, 0))) : Bo b R w w' :=
 ⟨⟨k.os, k.tape, k.output, k.size, fun i hi hn => k.block i hi (fun e => hn (hS i e).1)⟩, ⟨k.size, fun i o ho hc => by
  rw [k.block i (Array.getElem?_eq_some_iff.1 ho).1 (fun hi => by
   obtain ⟨_, cur, t, e⟩ := hS i hi
   rw [ho] at e
   cases e
   cases hc)]
  exact ho⟩⟩
theorem Bo.of {b R : Nat} {w w' : World} (k : KZ w w') (hb : b ≤ w.heap.size) : Bo b R w w' := Bo.kpS k (fun _ h => h.elim)
theorem bo_set {b R : Nat} {w : World} {cs : List Value} {t : TypeId} (h : Blk w R cs t) (i : Nat) (v : Value) : Bo b R w (w.setCell ⟨R, i, none⟩ v) :=
 Bo.kpS (S := (· = R)) ((Kp.refl _ w).setCell _ _ (.inr rfl)) (fun k e => by subst e; exact ⟨.inl rfl, _, _, h⟩)
theorem Or.bo {b R : Nat} {e : TypeId} {size n : Nat} {w w' : World} {v v' : Value} {xs : List Value} (h : Or b e size w v n xs) (hg : Grew v v' w w') (hb : b ≤ w.heap.size) : Bo b R w w' :=
 Bo.kpS hg.kp (fun k hk => ⟨.inr (h.new k hk), by
  rcases h.own.2 with ⟨rfl, _⟩ | ⟨g, cap, cur, rfl, _, hh, _⟩
  ·cases hk
  ·injection hk with hk
   subst hk
   exact ⟨cur, e, hh⟩⟩)
def stg (k : Nat) (s : Sc) : Int := if k < 3 then (k : Int) else if s.ac ≠ [] then 5 else if s.ss ≠ [] then 4 else 3
end Go.Proofs.YtkcechpaeilaeaaGreatDoor
