/- Joined out of: Ta. -/
import Derived.Test.YtkcechpaeilaeaaGreatDoorK2
import Derived.Test.YtkcechpaeilaeaaGreatDoorK1
import Derived.Laws.IdiomStrings
import Derived.Laws.Strings3
import Derived.Laws.BytesArg
set_option linter.unusedVariables false
set_option linter.unusedSimpArgs false
namespace Go.Proofs.YtkcechpaeilaeaaGreatDoor
open Go.RowKit
def ints (l : List UInt8) : List Int := l.map (fun c => (c.toNat : Int))
@[simp] theorem ints_length (l : List UInt8) : (ints l).length = l.length := by simp [ints]
theorem ints_append (a b : List UInt8) : ints (a ++ b) = ints a ++ ints b := by simp [ints]
theorem ints_get (l : List UInt8) (k : Nat) (h : k < l.length) : (u8s (ints l))[k]? = some (.int .u8 (l[k].toNat : Int)) := by simp [u8s, ints, h]
def qone (bl : Bool) (c : UInt8) : List UInt8 := if pln c.toNat bl then [c] else [92, (hxd (c.toNat / 16)).toUInt8, (hxd (c.toNat % 16)).toUInt8]
def quote (l : List UInt8) (bl : Bool) : List UInt8 := l.flatMap (qone bl)
theorem qone_length (bl : Bool) (c : UInt8) : (qone bl c).length ≤ 3 := by unfold qone; split <;> simp
theorem quote_cons (c : UInt8) (l : List UInt8) (bl : Bool) : quote (c :: l) bl = qone bl c ++ quote l bl := by simp [quote]
theorem quote_length (l : List UInt8) (bl : Bool) : (quote l bl).length ≤ 3 * l.length := by
 induction l with
 | nil => simp [quote]
 | cons c r ih =>
  have := qone_length bl c
  simp [quote] at ih ⊢
  omega
theorem quote_append (a b : List UInt8) (bl : Bool) : quote (a ++ b) bl = quote a bl ++ quote b bl := by simp [quote]
theorem quote_take {l : List UInt8} {k : Nat} (h : k < l.length) (bl : Bool) : quote (l.take (k + 1)) bl = quote (l.take k) bl ++ qone bl l[k] := by
 rw [List.take_succ_eq_append_getElem h, quote_append]; simp [quote]
abbrev hexl : List UInt8 := [48, 49, 50, 51, 52, 53, 54, 55, 56, 57, 97, 98, 99, 100, 101, 102]
def hl (h m : UInt8) : Nat := 16 * vld h.toNat + vld m.toNat
def uq (bl : Bool) : List UInt8 → Option (List UInt8)
 | [] => some []
 | c :: r =>
  if pln c.toNat bl then (uq bl r).map (c :: ·)
  else match r with
   | h :: m :: r' => if c = 92 ∧ vld h.toNat < 16 ∧ vld m.toNat < 16 ∧ pln (hl h m) bl = false then (uq bl r').map ((hl h m).toUInt8 :: ·) else none
   | _ => none
def un : List UInt8 → Option (List UInt8)
 | [] => some []
 | c :: r =>
  if c = 92 then match r with
   | h :: m :: r' => if vld h.toNat < 16 ∧ vld m.toNat < 16 then (un r').map ((hl h m).toUInt8 :: ·) else none
   | _ => none
  else (un r).map (c :: ·)
theorem uq_pln (bl : Bool) {c : UInt8} (r : List UInt8) (hp : pln c.toNat bl = true) : uq bl (c :: r) = (uq bl r).map (c :: ·) := by rw [uq.eq_def]; simp [hp]
theorem un_pln {c : UInt8} (r : List UInt8) (hp : c ≠ 92) : un (c :: r) = (un r).map (c :: ·) := by rw [un.eq_def]; simp [hp]
theorem hxd_lt {n : Nat} (h : n < 16) : hxd n < 256 := by unfold hxd; split <;> omega
theorem hxd_u8 {n : Nat} (h : n < 16) : (hxd n).toUInt8.toNat = hxd n := by simp; exact hxd_lt h
theorem pln_92 (bl : Bool) : pln 92 bl = false := by cases bl <;> decide
theorem un_quote (l : List UInt8) (bl : Bool) : un (quote l bl) = some l := by
 induction l with
 | nil => rfl
 | cons c r ih =>
  rw [quote_cons, qone]
  cases hp : pln c.toNat bl
  ·have hc := c.toNat_lt
   have h1 : c.toNat / 16 < 16 := by omega
   have h2 : c.toNat % 16 < 16 := by omega
   simp only [Bool.false_eq_true, if_false, List.cons_append, List.nil_append]
   rw [un]
   simp only [if_true, hl, hxd_u8 h1, hxd_u8 h2, vld_hxd h1 rfl, vld_hxd h2 rfl, h1, h2, and_self, ih, Option.map_some]
   rw [Nat.div_add_mod]
   simp
  ·have : c ≠ 92 := by
    rintro rfl
    rw [show (92 : UInt8).toNat = 92 from rfl, pln_92] at hp
    cases hp
   simp only [if_true, List.cons_append, List.nil_append]
   rw [un_pln _ this, ih]
   rfl
theorem uq_quote (l : List UInt8) (bl : Bool) : uq bl (quote l bl) = some l := by
 induction l with
 | nil => rfl
 | cons c r ih =>
  rw [quote_cons, qone]
  cases hp : pln c.toNat bl
  ·have hc := c.toNat_lt
   have h1 : c.toNat / 16 < 16 := by omega
   have h2 : c.toNat % 16 < 16 := by omega
   simp only [Bool.false_eq_true, if_false, List.cons_append, List.nil_append]
   rw [uq, if_neg (by rw [show (92 : UInt8).toNat = 92 from rfl, pln_92]; simp)]
   simp only [hl, hxd_u8 h1, hxd_u8 h2, vld_hxd h1 rfl, vld_hxd h2 rfl, h1, h2, true_and, ih, Option.map_some]
   rw [Nat.div_add_mod, hp]
   simp
  ·simp only [if_true, List.cons_append, List.nil_append]
   rw [uq_pln _ _ hp, ih]
   rfl
theorem hl_lt {h m : UInt8} (a : vld h.toNat < 16) (b : vld m.toNat < 16) : hl h m < 256 := by unfold hl; omega
theorem quote_uq (bl : Bool) : ∀ (s b : List UInt8), uq bl s = some b → quote b bl = s := by
 intro s
 induction s using uq.induct bl with
 | case1 => intro b h; rw [uq] at h; injection h with h; subst h; rfl
 | case2 c r hp ih =>
  intro b h
  rw [uq_pln _ _ hp] at h
  obtain ⟨t, h1, rfl⟩ := Option.map_eq_some_iff.1 h
  rw [quote_cons, ih t h1, qone, if_pos hp]
  rfl
 | case3 c hp h m r' hc ih =>
  intro b hb
  rw [uq, if_neg hp] at hb
  simp only [hc, and_self, if_true] at hb
  obtain ⟨t, h1, rfl⟩ := Option.map_eq_some_iff.1 hb
  obtain ⟨rfl, h2, h3, h4⟩ := hc
  have h5 := hl_lt h2 h3
  have h6 : (hl h m).toUInt8.toNat = hl h m := by simp; exact h5
  have h7 : hl h m / 16 = vld h.toNat := by unfold hl; omega
  have h8 : hl h m % 16 = vld m.toNat := by unfold hl; omega
  rw [quote_cons, ih t h1, qone, h6, h4, h7, h8, hxd_vld h2, hxd_vld h3]
  simp
 | case4 c hp h m r' hc =>
  intro b hb
  rw [uq, if_neg hp] at hb
  simp only [hc, if_false] at hb
  cases hb
 | case5 c r hp hr =>
  intro b hb
  rw [uq.eq_def] at hb
  simp only [hp] at hb
  simp at hb
theorem uq_iff (bl : Bool) (s b : List UInt8) : uq bl s = some b ↔ quote b bl = s := ⟨quote_uq bl s b, fun h => by rw [← h, uq_quote]⟩
theorem un_uq (bl : Bool) (s : List UInt8) : (un s).bind (fun b => if quote b bl = s then some b else none) = uq bl s := by
 cases h : uq bl s with
 | some b =>
  have e := quote_uq bl s b h
  have := un_quote b bl
  rw [e] at this
  rw [this]
  simp [e]
 | none =>
  cases h2 : un s with
  | none => rfl
  | some b =>
   simp only [Option.bind_some]
   split
   ·rename_i e
    rw [← e, uq_quote] at h
    cases h
   ·rfl
theorem quote_no_blank (l : List UInt8) : (32 : UInt8) ∉ quote l false := by
 intro h
 obtain ⟨c, -, h⟩ := List.mem_flatMap.1 h
 unfold qone at h
 split at h
 ·rename_i hp
  simp at h
  subst h
  revert hp
  decide
 ·have hc := c.toNat_lt
  have h1 : ∀ n, n < 16 → (hxd n).toUInt8 ≠ 32 := by decide
  simp at h
  rcases h with h | h
  ·exact h1 (c.toNat / 16) (by omega) (by simpa using h.symm)
  ·exact h1 (c.toNat % 16) (by omega) (by simpa using h.symm)
end Go.Proofs.YtkcechpaeilaeaaGreatDoor
namespace Go.Proofs.YtkcechpaeilaeaaGreatDoor
open Go.RowKit
structure A where
 d : Int
 k : List UInt8
 t : List UInt8
 n : Int
 p : List UInt8
def nms : List (List UInt8) := [[], [98, 101, 103, 105, 110], [99, 111, 109, 109, 105, 116], [97, 98, 111, 114, 116], [97, 100, 100], [117, 112, 100, 97, 116, 101], [100, 101, 108, 101, 116, 101], [103, 101, 116], [115, 101, 97, 114, 99, 104], [114, 97, 110, 107], [99, 111, 109, 112, 97, 99, 116], [97, 114, 109], [99, 114, 97, 115, 104], [111, 112, 101, 110], [115, 116, 97, 116]]
def nm (d : Int) : List UInt8 := nms.getD d.toNat []
def hk (d : Int) : Bool := decide (4 ≤ d) && decide (d ≤ 7)
def ht (d : Int) : Bool := decide (d = 4) || decide (d = 5) || decide (d = 8) || decide (d = 9)
def hn (d : Int) : Bool := decide (d = 9) || decide (d = 11)
def may (a : A) : Prop := 1 ≤ a.d ∧ a.d ≤ 14 ∧ a.k.length ≤ 2000 ∧ a.t.length ≤ 2000 ∧ a.p.length ≤ 200 ∧ 0 ≤ a.n ∧ a.n ≤ 1048576
 ∧ decide (a.k ≠ []) = hk a.d ∧ (a.t = [] ∨ ht a.d = true) ∧ (a.n = 0 ∨ hn a.d = true) ∧ (a.p = [] ∨ a.d = 12)
instance (a : A) : Decidable (may a) := by unfold may; infer_instance
def pk (p : List UInt8) : List UInt8 := p.flatMap (fun c => 32 :: Lib.itoa c.toNat)
def fields (a : A) : List UInt8 := (if hn a.d then 32 :: Lib.itoa a.n else []) ++ ((if hk a.d then 32 :: quote a.k false else []) ++ ((if ht a.d then 32 :: quote a.t true else []) ++ pk a.p))
def line (a : A) : List UInt8 := nm a.d ++ fields a
def wd (l : List UInt8) : List UInt8 := l.takeWhile (· != 32)
def rs (l : List UInt8) : List UInt8 := (l.dropWhile (· != 32)).tail
theorem wd_hit {x : List UInt8} (h : (32 : UInt8) ∉ x) (y : List UInt8) : wd (x ++ 32 :: y) = x ∧ rs (x ++ 32 :: y) = y := by
 induction x with
 | nil => simp [wd, rs]
 | cons c r ih =>
  have hc : c ≠ 32 := fun e => h (by simp [e])
  obtain ⟨i1, i2⟩ := ih (fun e => h (by simp [e]))
  constructor
  ·simp only [wd, List.cons_append] at i1 ⊢
   rw [List.takeWhile_cons, if_pos (by simpa using hc), i1]
  ·simp only [rs, List.cons_append] at i2 ⊢
   rw [List.dropWhile_cons, if_pos (by simpa using hc), i2]
theorem wd_miss {x : List UInt8} (h : (32 : UInt8) ∉ x) : wd x = x ∧ rs x = [] := by
 induction x with
 | nil => simp [wd, rs]
 | cons c r ih =>
  have hc : c ≠ 32 := fun e => h (by simp [e])
  obtain ⟨i1, i2⟩ := ih (fun e => h (by simp [e]))
  constructor
  ·simp only [wd] at i1 ⊢
   rw [List.takeWhile_cons, if_pos (by simpa using hc), i1]
  ·simp only [rs] at i2 ⊢
   rw [List.dropWhile_cons, if_pos (by simpa using hc), i2]
theorem nms_no_blank : ∀ x ∈ nms, (32 : UInt8) ∉ x := by decide
theorem nm_no_blank (d : Int) : (32 : UInt8) ∉ nm d := by
 unfold nm
 rw [List.getD_eq_getElem?_getD]
 cases h : nms[d.toNat]? with
 | none => simp
 | some x => exact nms_no_blank x (List.mem_of_getElem? h)
theorem nm_inj_nat : ∀ i, i < 15 → ∀ j, j < 15 → nms.getD i [] = nms.getD j [] → i = j := by decide
theorem nm_inj {i j : Int} (hi : 1 ≤ i) (hi2 : i ≤ 14) (hj : 1 ≤ j) (hj2 : j ≤ 14) (h : nm i = nm j) : i = j := by
 have := nm_inj_nat i.toNat (by omega) j.toNat (by omega) h
 omega
theorem nm_ne_nil {i : Int} (hi : 1 ≤ i) (hi2 : i ≤ 14) : nm i ≠ [] := by
 intro h
 have := nm_inj_nat i.toNat (by omega) 0 (by omega) h
 omega
theorem nm_nil {i : Int} (h : i < 1 ∨ 14 < i) : nm i = [] := by
 unfold nm
 rcases h with h | h
 ·rw [show i.toNat = 0 by omega]; rfl
 ·rw [List.getD_eq_getElem?_getD, List.getElem?_eq_none (by show 15 ≤ _; omega)]; rfl
/-! ### Numbers -/
theorem digs_mem (u : Nat) : ∀ c ∈ Lib.decDigits u, 48 ≤ c.toNat ∧ c.toNat ≤ 57 := by
 induction u using Nat.strongRecOn with
 | _ u ih =>
  intro c hc
  rw [Lib.decDigits] at hc
  split at hc
  ·rename_i h
   simp at hc
   subst hc
   simp
   omega
  ·rename_i h
   rcases List.mem_append.1 hc with hc | hc
   ·exact ih (u / 10) (by omega) c hc
   ·simp at hc
    subst hc
    simp
    omega
theorem itoa_no_blank (n : Nat) : (32 : UInt8) ∉ Lib.itoa n := by
 rw [Lib.itoa_nonneg]
 intro h
 have := digs_mem n _ h
 revert this
 decide
theorem parse_append (x : List UInt8) (c : UInt8) (hc : 48 ≤ c.toNat ∧ c.toNat ≤ 57) : ∀ (acc v : Nat), Lib.parseUint10 acc x = .ok v → v < 1844674407370955161 → Lib.parseUint10 acc (x ++ [c]) = .ok (v * 10 + (c.toNat - 48)) := by
 induction x with
 | nil =>
  intro acc v h hv
  simp only [Lib.parseUint10] at h
  injection h with h
  subst h
  simp only [List.nil_append, Lib.parseUint10, hc, and_self, if_true]
  rw [if_neg (by omega), if_neg (by omega)]
 | cons a r ih =>
  intro acc v h hv
  simp only [List.cons_append, Lib.parseUint10] at h ⊢
  split at h
  ·rename_i ha
   rw [if_pos ha]
   split at h
   ·cases h
   ·rename_i h1
    rw [if_neg h1]
    split at h
    ·cases h
    ·rename_i h2
     rw [if_neg h2]
     exact ih _ _ h hv
  ·cases h
theorem parse_digs (u : Nat) : u < 10000000000000000000 → Lib.parseUint10 0 (Lib.decDigits u) = .ok u := by
 induction u using Nat.strongRecOn with
 | _ u ih =>
  intro hu
  rw [Lib.decDigits]
  split
  ·rename_i h
   have e : (UInt8.ofNat (48 + u)).toNat = 48 + u := by simp; omega
   simp only [Lib.parseUint10, e]
   rw [if_pos (by omega), if_neg (by omega), if_neg (by omega)]
   congr 1
   omega
  ·rename_i h
   have e : (UInt8.ofNat (48 + u % 10)).toNat = 48 + u % 10 := by simp; omega
   rw [parse_append _ _ (by rw [e]; omega) 0 (u / 10) (ih (u / 10) (by omega) (by omega)) (by omega), e]
   congr 1
   omega
theorem digs_ne (u : Nat) : Lib.decDigits u ≠ [] := by
 intro h
 have := congrArg List.length h
 rw [Lib.decDigits_length] at this
 have := Lib.nDigits_pos u
 simp at *
 omega
theorem atoi_itoa (n : Nat) (h : n < 9223372036854775808) : Lib.atoiAll (Lib.itoa n) = .ok (n : Int) := by
 rw [Lib.itoa_nonneg]
 have h1 := parse_digs n (by omega)
 have h2 := digs_mem n
 have h3 := digs_ne n
 cases h4 : Lib.decDigits n with
 | nil => exact absurd h4 h3
 | cons c r =>
  have hc := h2 c (by simp [h4])
  rw [h4] at h1
  simp only [Lib.atoiAll]
  rw [if_neg (by omega), Lib.parseMag, if_neg (by simp), h1]
  simp only
  rw [if_neg (by omega), if_neg (by omega), if_neg (by omega)]
def num (s : List UInt8) : Int := match Lib.atoiAll s with
 | .ok v => v
 | .range => Lib.atoiSat s
 | _ => 0
theorem num_itoa (n : Nat) (h : n < 9223372036854775808) : num (Lib.itoa n) = n := by rw [num, atoi_itoa n h]
def digstep : List UInt8 → Nat → Int
 | [], n => n
 | c :: r, n => if 48 ≤ c.toNat ∧ c.toNat ≤ 57 then digstep r (n * 10 + (c.toNat - 48)) else -1
def dig (s : List UInt8) : Int := if s = [] ∨ 9 < s.length ∨ (1 < s.length ∧ s.head? = some 48) then -1 else digstep s 0
theorem digstep_append (x : List UInt8) (c : UInt8) (hc : 48 ≤ c.toNat ∧ c.toNat ≤ 57) : ∀ (acc v : Nat), digstep x acc = (v : Int) → digstep (x ++ [c]) acc = ((v * 10 + (c.toNat - 48) : Nat) : Int) := by
 induction x with
 | nil =>
  intro acc v h
  simp only [digstep] at h
  simp only [List.nil_append, digstep, hc, and_self, if_true]
  omega
 | cons a r ih =>
  intro acc v h
  simp only [List.cons_append, digstep] at h ⊢
  split at h
  ·rename_i ha
   rw [if_pos ha]
   exact ih _ _ h
  ·omega
theorem dig_digs (u : Nat) : digstep (Lib.decDigits u) 0 = u := by
 induction u using Nat.strongRecOn with
 | _ u ih =>
  rw [Lib.decDigits]
  split
  ·rename_i h
   have e : (UInt8.ofNat (48 + u)).toNat = 48 + u := by simp; omega
   simp only [digstep, e]
   rw [if_pos (by omega)]
   omega
  ·rename_i h
   have e : (UInt8.ofNat (48 + u % 10)).toNat = 48 + u % 10 := by simp; omega
   rw [digstep_append _ _ (by rw [e]; omega) 0 (u / 10) (ih (u / 10) (by omega)), e]
   omega
theorem digs_head (u : Nat) : (Lib.decDigits u).head? = some 48 → u = 0 := by
 induction u using Nat.strongRecOn with
 | _ u ih =>
  rw [Lib.decDigits]
  split
  ·rename_i h
   intro e
   simp at e
   have := congrArg UInt8.toNat e
   simp at this
   omega
  ·rename_i h
   have := digs_ne (u / 10)
   cases h4 : Lib.decDigits (u / 10) with
   | nil => exact absurd h4 this
   | cons c r =>
    intro e
    have := ih (u / 10) (by omega) (by rw [h4]; simpa using e)
    omega
theorem nDigits_le : ∀ (k u : Nat), u < 10 ^ (k + 1) → Lib.nDigits u ≤ k + 1
 | 0, u, h => by rw [Lib.nDigits_small (by omega)]; omega
 | k + 1, u, h => by
  by_cases h2 : u < 10
  ·rw [Lib.nDigits_small h2]; omega
  ·rw [Lib.nDigits_big h2]
   have := nDigits_le k (u / 10) (by rw [Nat.pow_succ] at h; omega)
   omega
theorem dig_itoa (n : Nat) (h : n < 1000000000) : dig (Lib.itoa n) = n := by
 rw [Lib.itoa_nonneg, dig, if_neg, dig_digs]
 rintro (h1 | h1 | ⟨h1, h2⟩)
 ·exact digs_ne n h1
 ·rw [Lib.decDigits_length] at h1
  have := nDigits_le 8 n (by omega)
  omega
 ·have := digs_head n h2
  subst this
  rw [Lib.decDigits] at h1
  simp at h1
theorem itoa_ne (n : Nat) : Lib.itoa n ≠ [] := by rw [Lib.itoa_nonneg]; exact digs_ne n
end Go.Proofs.YtkcechpaeilaeaaGreatDoor
namespace Go.Proofs.YtkcechpaeilaeaaGreatDoor
open Go.RowKit
def spl (s : List UInt8) : List (List UInt8) := Lib.splitK [32] 0 s.length s
def readS (d : Int) (r : List UInt8) : A :=
 let r2 := if hn d then rs r else r
 let r3 := if hk d then rs r2 else r2
 {d := d, n := if hn d then num (wd r) else 0, k := if hk d then (uq false (wd r2)).getD [] else [], t := if ht d then (uq true r3).getD [] else [],
  p := if d = 12 ∧ r3 ≠ [] then (spl r3).map (fun w => (num w % 256).toNat.toUInt8) else [] }
def picks : Nat → List UInt8 → Option (List UInt8)
 | 0, _ => some []
 | f + 1, r => if r = [] then some [] else if dig (wd r) < 0 ∨ 255 < dig (wd r) then none else (picks f (rs r)).map ((dig (wd r)).toNat.toUInt8 :: ·)
def readR (d : Int) (r : List UInt8) : Option A :=
 let r2 := if hk d then rs r else r
 let r3 := if hn d then rs r2 else r2
 (if d = 12 then picks 201 r3 else some []).map fun p =>
 {d := d, k := if hk d then (uq false (wd r)).getD [] else [], n := if hn d then dig (wd r2) else 0, t := if ht d then (uq true r3).getD [] else [], p := p }
theorem fields_cut (a : A) : wd (line a) = nm a.d ∧ rs (line a) = (fields a).tail := by
 have h0 := nm_no_blank a.d
 have h : fields a = [] ∨ ∃ y, fields a = 32 :: y := by
  unfold fields
  cases hn a.d <;> simp only [if_true, Bool.false_eq_true, if_false, List.nil_append, List.cons_append]
  ·cases hk a.d <;> simp only [if_true, Bool.false_eq_true, if_false, List.nil_append, List.cons_append]
   ·cases ht a.d <;> simp only [if_true, Bool.false_eq_true, if_false, List.nil_append, List.cons_append]
    ·cases a.p with
     | nil => exact .inl rfl
     | cons c r => exact .inr ⟨_, rfl⟩
    ·exact .inr ⟨_, rfl⟩
   ·exact .inr ⟨_, rfl⟩
  ·exact .inr ⟨_, rfl⟩
 unfold line
 rcases h with e | ⟨y, e⟩
 ·rw [e, List.append_nil]
  exact wd_miss h0
 ·rw [e]
  exact wd_hit h0 y
theorem pk_cons (c : UInt8) (p : List UInt8) : pk (c :: p) = 32 :: (Lib.itoa c.toNat ++ pk p) := by simp [pk]
theorem pk_cut (c : UInt8) (p : List UInt8) : wd (pk (c :: p)).tail = Lib.itoa c.toNat ∧ rs (pk (c :: p)).tail = (pk p).tail := by
 rw [pk_cons, List.tail_cons]
 cases p with
 | nil => simpa [pk] using wd_miss (itoa_no_blank c.toNat)
 | cons c' r => rw [pk_cons]; exact wd_hit (itoa_no_blank c.toNat) _
theorem picks_pk : ∀ (p : List UInt8) (f : Nat), p.length ≤ f → picks f (pk p).tail = some p
 | [], 0, _ => rfl
 | [], f + 1, _ => by rw [picks, if_pos (by rfl)]
 | c :: r, 0, h => by simp at h
 | c :: r, f + 1, h => by
  obtain ⟨h1, h2⟩ := pk_cut c r
  have hc := c.toNat_lt
  have e : (pk (c :: r)).tail ≠ [] := by
   rw [pk_cons, List.tail_cons]
   intro e
   exact itoa_ne _ (List.append_eq_nil_iff.1 e).1
  rw [picks, if_neg e, h1, h2, dig_itoa _ (by omega), if_neg (by omega), picks_pk r f (by simpa using h)]
  simp
theorem index_blank (x y : List UInt8) (h : (32 : UInt8) ∉ x) : Lib.index (x ++ 32 :: y) [32] = (x.length : Int) := by
 rw [Lib.index_one]
 induction x with
 | nil => simp [Lib.indexByte]
 | cons c r ih =>
  have hc : c ≠ 32 := fun e => h (by simp [e])
  have := ih (fun e => h (by simp [e]))
  rw [List.cons_append, Lib.indexByte, if_neg (by simpa using hc), this]
  simp
theorem index_no_blank (x : List UInt8) (h : (32 : UInt8) ∉ x) : Lib.index x [32] = -1 := by
 rw [Lib.index_one]
 induction x with
 | nil => simp [Lib.indexByte]
 | cons c r ih =>
  have hc : c ≠ 32 := fun e => h (by simp [e])
  have := ih (fun e => h (by simp [e]))
  rw [Lib.indexByte, if_neg (by simpa using hc), this]
  simp
theorem splitK_pk : ∀ (p : List UInt8) (c : UInt8) (f : Nat), p.length ≤ f → Lib.splitK [32] 0 f (pk (c :: p)).tail = (c :: p).map (fun c => Lib.itoa c.toNat)
 | [], c, f, _ => by
  have h := index_no_blank _ (itoa_no_blank c.toNat)
  rw [pk_cons, List.tail_cons]
  cases f with
  | zero => simp [Lib.splitK, pk]
  | succ f => simp [Lib.splitK, pk, h]
 | c' :: r, c, 0, h => by simp at h
 | c' :: r, c, f + 1, h => by
  rw [pk_cons, List.tail_cons, pk_cons c' r]
  have h1 := index_blank (Lib.itoa c.toNat) (Lib.itoa c'.toNat ++ pk r) (itoa_no_blank c.toNat)
  have ih := splitK_pk r c' f (by simpa using h)
  rw [pk_cons, List.tail_cons] at ih
  rw [Lib.splitK, h1]
  rw [if_neg (by simp)]
  simp only [Int.toNat_natCast, Nat.add_zero, List.take_left, List.map_cons, List.length_cons, List.length_nil]
  rw [show (Lib.itoa ↑c.toNat ++ 32 :: (Lib.itoa ↑c'.toNat ++ pk r)).drop ((Lib.itoa ↑c.toNat).length + (0 + 1)) = Lib.itoa ↑c'.toNat ++ pk r by
   rw [List.drop_append]; simp]
  rw [ih]
  simp
theorem pk_length (p : List UInt8) : p.length ≤ (pk p).length := by
 induction p with
 | nil => simp
 | cons c r ih => rw [pk_cons]; simp; omega
theorem spl_pk (c : UInt8) (p : List UInt8) : spl (pk (c :: p)).tail = (c :: p).map (fun c => Lib.itoa c.toNat) := by
 refine splitK_pk p c _ ?_
 rw [pk_cons, List.tail_cons, List.length_append]
 have := pk_length p
 omega
theorem num_u8 (c : UInt8) : (num (Lib.itoa c.toNat) % 256).toNat.toUInt8 = c := by
 have hc := c.toNat_lt
 rw [num_itoa _ (by omega)]
 rw [show ((c.toNat : Int) % 256).toNat = c.toNat by omega]
 simp
theorem pk_tail_nil (p : List UInt8) : (pk p).tail ≠ [] ↔ p ≠ [] := by
 cases p with
 | nil => simp [pk]
 | cons c r =>
  rw [pk_cons, List.tail_cons]
  simp [itoa_ne]
theorem kinds {d : Int} (h1 : 1 ≤ d) (h2 : d ≤ 14) : (d = 1 ∨ d = 2 ∨ d = 3 ∨ d = 10 ∨ d = 13 ∨ d = 14) ∨ (d = 4 ∨ d = 5) ∨ (d = 6 ∨ d = 7) ∨ d = 8 ∨ d = 9 ∨ d = 11 ∨ d = 12 := by omega
theorem readS_fields (a : A) (h : may a) : readS a.d (fields a).tail = a := by
 obtain ⟨d, k, t, n, p⟩ := a
 obtain ⟨h1, h2, h3, h4, h5, h6, h7, h8, h9, h10, h11⟩ := h
 simp only at *
 obtain ⟨m, rfl⟩ : ∃ m : Nat, n = m := ⟨n.toNat, by omega⟩
 have q1 := wd_hit (quote_no_blank k) (quote t true)
 have q2 := wd_miss (quote_no_blank k)
 have q3 := wd_hit (itoa_no_blank m) (quote t true)
 have q4 := wd_miss (itoa_no_blank m)
 rcases kinds h1 h2 with (rfl | rfl | rfl | rfl | rfl | rfl) | (rfl | rfl) | (rfl | rfl) | rfl | rfl | rfl | rfl
 case inr.inr.inr.inr.inr.inr =>
  simp [hk, ht, hn] at h8 h9 h10
  subst h8 h9 h10
  simp only [readS, fields, hk, ht, hn, decide_true, decide_false, Bool.and_true, Bool.true_and, Bool.or_false, Bool.and_false, Bool.false_and, if_true, if_false, Bool.false_eq_true, List.nil_append, Int.reduceLE, Int.reduceEq, pk_tail_nil]
  cases p with
  | nil => simp
  | cons c r =>
   simp only [ne_eq, reduceCtorEq, not_false_eq_true, and_self, if_true, spl_pk, List.map_map, Function.comp_def, num_u8, List.map_id']
   rfl
 all_goals
  simp [hk, ht, hn] at h8 h9 h10 h11
  try subst h8
  try subst h9
  try subst h10
  try subst h11
  simp [readS, fields, hk, ht, hn, pk]
 all_goals first
  | (simp [q1.1, q1.2, uq_quote]; done)
  | (simp [q2.1, q2.2, uq_quote]; done)
  | (simp [uq_quote]; done)
  | (simp [q3.1, q3.2, uq_quote]; exact num_itoa m (by omega))
  | (simp [q4.1, q4.2]; exact num_itoa m (by omega))
theorem readR_fields (a : A) (h : may a) : readR a.d (fields a).tail = some a := by
 obtain ⟨d, k, t, n, p⟩ := a
 obtain ⟨h1, h2, h3, h4, h5, h6, h7, h8, h9, h10, h11⟩ := h
 simp only at *
 obtain ⟨m, rfl⟩ : ∃ m : Nat, n = m := ⟨n.toNat, by omega⟩
 have q1 := wd_hit (quote_no_blank k) (quote t true)
 have q2 := wd_miss (quote_no_blank k)
 have q3 := wd_hit (itoa_no_blank m) (quote t true)
 have q4 := wd_miss (itoa_no_blank m)
 rcases kinds h1 h2 with (rfl | rfl | rfl | rfl | rfl | rfl) | (rfl | rfl) | (rfl | rfl) | rfl | rfl | rfl | rfl
 case inr.inr.inr.inr.inr.inr =>
  simp [hk, ht, hn] at h8 h9 h10
  subst h8 h9 h10
  simp [readR, fields, hk, ht, hn, picks_pk p 201 (by omega)]
 all_goals
  simp [hk, ht, hn] at h8 h9 h10 h11
  try subst h8
  try subst h9
  try subst h10
  try subst h11
  simp [readR, fields, hk, ht, hn, pk]
 all_goals first
  | (simp [q1.1, q1.2, uq_quote]; done)
  | (simp [q2.1, q2.2, uq_quote]; done)
  | (simp [uq_quote]; done)
  | (simp [q3.1, q3.2, uq_quote]; exact dig_itoa m (by omega))
  | (simp [q4.1, q4.2]; exact dig_itoa m (by omega))
structure Says (l : List UInt8) (a : A) (ok : Bool) : Prop where
 yes : ok = true → may a ∧ line a = l
 no : ok = false → ∀ b, may b → line b ≠ l
theorem says_one {l : List UInt8} {a b : A} {p q : Bool} (h : Says l a p) (k : Says l b q) : p = q ∧ (p = true → a = b) := by
 have inj : ∀ a b : A, may a → may b → line a = line b → a = b := fun a b ha hb e => by
  obtain ⟨x1, x2⟩ := fields_cut a
  obtain ⟨y1, y2⟩ := fields_cut b
  rw [e] at x1 x2
  have hd : a.d = b.d := nm_inj ha.1 ha.2.1 hb.1 hb.2.1 (x1.symm.trans y1)
  rw [← readS_fields a ha, ← readS_fields b hb, hd, ← x2, ← y2]
 cases p <;> cases q
 ·exact ⟨rfl, fun h => by cases h⟩
 ·obtain ⟨h1, h2⟩ := k.yes rfl
  exact absurd h2 (h.no rfl b h1)
 ·obtain ⟨h1, h2⟩ := h.yes rfl
  exact absurd h2 (k.no rfl a h1)
 ·obtain ⟨h1, h2⟩ := h.yes rfl
  obtain ⟨h3, h4⟩ := k.yes rfl
  exact ⟨rfl, fun _ => inj a b h1 h3 (h2.trans h4.symm)⟩
structure Names (x : List UInt8) (d : Int) : Prop where
 any : ∀ j : Int, 1 ≤ j → j ≤ 14 → nm j = x → d = j
 low : 0 ≤ d ∧ d ≤ 14
theorem cand_S {l : List UInt8} {d : Int} (h : Names (wd l) d) {b : A} (hb : may b) (hl : line b = l) : readS d (rs l) = b := by
 obtain ⟨e1, e2⟩ := fields_cut b
 rw [hl] at e1 e2
 have : d = b.d := h.any b.d hb.1 hb.2.1 e1.symm
 rw [this, e2, readS_fields b hb]
theorem says_S {l : List UInt8} {d : Int} (h : Names (wd l) d) : Says l (readS d (rs l)) (decide (may (readS d (rs l)) ∧ line (readS d (rs l)) = l)) := by
 refine ⟨fun e => by simpa using e, fun e b hb hl => ?_⟩
 rw [cand_S h hb hl] at e
 simp [hb, hl] at e
theorem cand_R {l : List UInt8} {d : Int} (h : Names (wd l) d) {b : A} (hb : may b) (hl : line b = l) : readR d (rs l) = some b := by
 obtain ⟨e1, e2⟩ := fields_cut b
 rw [hl] at e1 e2
 have : d = b.d := h.any b.d hb.1 hb.2.1 e1.symm
 rw [this, e2, readR_fields b hb]
theorem says_R {l : List UInt8} {d : Int} (h : Names (wd l) d) {a : A} (ha : readR d (rs l) = some a) : Says l a (decide (may a ∧ line a = l)) := by
 refine ⟨fun e => by simpa using e, fun e b hb hl => ?_⟩
 have := cand_R h hb hl
 rw [ha] at this
 injection this with this
 subst this
 simp [hb, hl] at e
theorem says_R_none {l : List UInt8} {d : Int} (h : Names (wd l) d) (ha : readR d (rs l) = none) (z : A) : Says l z false := by
 refine ⟨fun e => (Bool.noConfusion e), fun e b hb hl => ?_⟩
 have := cand_R h hb hl
 rw [ha] at this
 cases this
theorem says_zero {l : List UInt8} (h : Names (wd l) 0) (z : A) : Says l z false := by
 refine ⟨fun e => (Bool.noConfusion e), fun e b hb hl => ?_⟩
 obtain ⟨e1, e2⟩ := fields_cut b
 rw [hl] at e1
 have := h.any b.d hb.1 hb.2.1 e1.symm
 have := hb.1
 omega
end Go.Proofs.YtkcechpaeilaeaaGreatDoor
namespace Go.Proofs.YtkcechpaeilaeaaGreatDoor
open Go.RowKit
variable {P : Program} {ops : Array Oper} {rest : List Oper} {o : Oper} {a : Act} {Q : Exit → Act → World → Prop} {K : Act → World → Prop}
theorem ex_neqB (w : World) (t t2 : Nat) (x y : Operand) (ho : o.op = .binOp .neq t x y t2) (ht : P.underlying t = some .bool) (p q : Bool) (hx : a.eval x = .bool p) (hy : a.eval y = .bool q) (b : Bool) (hb : (p != q) = b) : (execOp a.eval o).run P w = .ok (.value (.bool b)) w := by
 have e : (binOp .neq t (.bool p) (.bool q)).run P w = .ok (.bool (p != q)) w := by
  exact run_neq_bool w t p q ht
 unfold execOp
 simp only [ho, hx, hy, Sem.run_bind, eqGuard_at_bool, Sem.run_pure, Result.andThen_ok, e, hb]
theorem wl_runG {w w' : World} {v : Value} (hw : Region.wanted o (yielded ops a.tmps) = true) (hr : (execOp a.eval o).run P w = .ok (.value v) w') (h : wpList P ops Q rest (a.put o.dst v) w') : wpList P ops Q (o :: rest) a w :=
 wpList_step fun K hK => by rw [if_pos hw]; exact ow_run hr (hK _ _ h)
theorem sz (l : List UInt8) : (ByteArray.mk l.toArray).size = l.length := by simp [ByteArray.size]
theorem ex_sidx (w : World) (t : TypeId) (x i : Operand) (ho : o.op = .index t x i) (ht : P.underlying t = some .string) (k : IntKind) (l : List UInt8) (n : Nat) (r : UInt8) (hr : l[n]? = some r)
  (z : Int) (hz : z = (n : Int)) (hx : a.eval x = .string ⟨l.toArray⟩) (hi : a.eval i = .int k z) : (execOp a.eval o).run P w = .ok (.value (.int .u8 (r.toNat : Int))) w := by
 subst hz
 obtain ⟨hn, rfl⟩ := List.getElem?_eq_some_iff.1 hr
 have e : (Instr.index t (.string ⟨l.toArray⟩) (.int k (n : Int))).run P w = .ok (.int .u8 (l[n].toNat : Int)) w := by
  rw [run_index_string w t _ k _ ht, dif_pos (by rw [sz]; omega)]
  rfl
 unfold execOp
 simp only [ho, hx, hi, Sem.run_bind, e, Result.andThen_ok]
 rfl
theorem ex_scat (w : World) (t t2 : TypeId) (x y : Operand) (ho : o.op = .binOp .add t x y t2) (p q : List UInt8) (hl : p.length + q.length ≤ 9000000000000000000)
  (hx : a.eval x = .string ⟨p.toArray⟩) (hy : a.eval y = .string ⟨q.toArray⟩) : (execOp a.eval o).run P w = .ok (.value (.string ⟨(p ++ q).toArray⟩)) w := by
 have e : (binOp .add t (.string ⟨p.toArray⟩) (.string ⟨q.toArray⟩)).run P w = .ok (.string ⟨(p ++ q).toArray⟩) w := by
  rw [binOp_string_add, Op.stringOp]
  simp only [sz]
  rw [if_neg (by have : IntKind.i64.max = 9223372036854775807 := (by decide); omega)]
  rw [Sem.run_pure]
  congr 2
 unfold execOp
 simp only [ho, hx, hy, Sem.run_bind, eqGuard_at_string, Sem.run_pure, Result.andThen_ok, e]
theorem toList_S (l : List UInt8) : (ByteArray.mk l.toArray).toList = l := ByteArray.toList_mk l
theorem ex_seql (w : World) (t t2 : TypeId) (x y : Operand) (ho : o.op = .binOp .eql t x y t2) (p q : List UInt8) (b : Bool) (hb : (p == q) = b)
  (hx : a.eval x = .string ⟨p.toArray⟩) (hy : a.eval y = .string ⟨q.toArray⟩) : (execOp a.eval o).run P w = .ok (.value (.bool b)) w := by
 have e : (binOp .eql t (.string ⟨p.toArray⟩) (.string ⟨q.toArray⟩)).run P w = .ok (.bool b) w := by
  rw [binOp_string_eql, toList_S, toList_S, ← hb]
  rfl
 unfold execOp
 simp only [ho, hx, hy, Sem.run_bind, eqGuard_at_string, Sem.run_pure, Result.andThen_ok, e]
theorem ex_sneq (w : World) (t t2 : TypeId) (x y : Operand) (ho : o.op = .binOp .neq t x y t2) (p q : List UInt8) (b : Bool) (hb : (p != q) = b)
  (hx : a.eval x = .string ⟨p.toArray⟩) (hy : a.eval y = .string ⟨q.toArray⟩) : (execOp a.eval o).run P w = .ok (.value (.bool b)) w := by
 have e : (binOp .neq t (.string ⟨p.toArray⟩) (.string ⟨q.toArray⟩)).run P w = .ok (.bool b) w := by
  rw [binOp_string_neq, toList_S, toList_S, ← hb]
  rfl
 unfold execOp
 simp only [ho, hx, hy, Sem.run_bind, eqGuard_at_string, Sem.run_pure, Result.andThen_ok, e]
theorem ex_slen (w : World) (t : Nat) (x : Operand) (ho : o.op = .call { callee := .builtin .len, args := #[x], argTypes := #[t] }) (ht : P.underlying t = some .string) (l : List UInt8) (hx : a.eval x = .string ⟨l.toArray⟩) : (execOp a.eval o).run P w = .ok (.value (.int .i64 (l.length : Int))) w := by
 unfold execOp
 simp only [ho, resolve, invoke, builtin, Sem.run_bind, Sem.run_pure, Result.andThen_ok, List.map_toArray, List.map_cons, List.map_nil, hx]
 rw [run_len_string w t _ _ ht, sz]
 rfl
theorem ex_sfrom (w : World) (t : Nat) (x i : Operand) (ho : o.op = .slice t x (some i) none none) (ht : P.underlying t = some .string) (l : List UInt8) (k : IntKind) (n : Nat) (hn : n ≤ l.length) (hx : a.eval x = .string ⟨l.toArray⟩) (hi : a.eval i = .int k (n : Int)) :
  (execOp a.eval o).run P w = .ok (.value (.string ⟨(l.drop n).toArray⟩)) w := by
 have e : (Instr.slice t (.string ⟨l.toArray⟩) (some (.int k (n : Int))) none none).run P w = .ok (.string ⟨(l.drop n).toArray⟩) w := by
  rw [run_slice_string_l w t _ ht k n (by omega) (by rw [sz]; omega), sz, ByteArray.extract_mk]
  congr 4
  rw [Int.toNat_natCast, List.take_of_length_le (by simp)]
 unfold execOp
 simp only [ho, hx, hi, Option.map_some, Option.map_none, Sem.run_bind, run_sliceAt_string w t _ _ _ _ ht, e, Result.andThen_ok, Sem.run_pure]
theorem ex_sto (w : World) (t : Nat) (x i : Operand) (ho : o.op = .slice t x none (some i) none) (ht : P.underlying t = some .string) (l : List UInt8) (k : IntKind) (n : Nat) (hn : n ≤ l.length) (hx : a.eval x = .string ⟨l.toArray⟩) (hi : a.eval i = .int k (n : Int)) :
  (execOp a.eval o).run P w = .ok (.value (.string ⟨(l.take n).toArray⟩)) w := by
 have e : (Instr.slice t (.string ⟨l.toArray⟩) none (some (.int k (n : Int))) none).run P w = .ok (.string ⟨(l.take n).toArray⟩) w := by
  rw [run_slice_string_h w t _ ht k n (by omega) (by rw [sz]; omega), ByteArray.extract_mk]
  simp
 unfold execOp
 simp only [ho, hx, hi, Option.map_some, Option.map_none, Sem.run_bind, run_sliceAt_string w t _ _ _ _ ht, e, Result.andThen_ok, Sem.run_pure]
theorem ex_scut (w : World) (t : Nat) (x i j : Operand) (ho : o.op = .slice t x (some i) (some j) none) (ht : P.underlying t = some .string) (l : List UInt8) (k : IntKind) (m n : Nat) (hm : m ≤ n) (hn : n ≤ l.length) (hx : a.eval x = .string ⟨l.toArray⟩) (hi : a.eval i = .int k (m : Int)) (hj : a.eval j = .int k (n : Int)) :
  (execOp a.eval o).run P w = .ok (.value (.string ⟨((l.drop m).take (n - m)).toArray⟩)) w := by
 have e : (Instr.slice t (.string ⟨l.toArray⟩) (some (.int k (m : Int))) (some (.int k (n : Int))) none).run P w = .ok (.string ⟨((l.drop m).take (n - m)).toArray⟩) w := by
  rw [run_slice_string w t _ k k m n ht (by omega) (by omega) (by rw [sz]; omega), ByteArray.extract_mk]
  simp
 unfold execOp
 simp only [ho, hx, hi, hj, Option.map_some, Option.map_none, Sem.run_bind, run_sliceAt_string w t _ _ _ _ ht, e, Result.andThen_ok, Sem.run_pure]
theorem ex_tostr (w : World) (s d e : TypeId) (x : Operand) (ho : o.op = .convert s d x) (hs : P.underlying s = some (.slice e)) (he : P.underlying e = some (.int .u8)) (hd : P.underlying d = some .string) (v : Value) (l : List UInt8) (hb : Bs w v (ints l)) (hx : a.eval x = v) :
  (execOp a.eval o).run P w = .ok (.value (.string ⟨l.toArray⟩)) w := by
 have e : (convert s d v).run P w = .ok (.string ⟨l.toArray⟩) w := by
  obtain ⟨A, c, rfl, hc, hr⟩ := hb
  rw [ints_length]
  rcases hr with hr | ⟨b, off, rfl, hr⟩
  ·have : l = [] := by cases l with
    | nil => rfl
    | cons _ _ => simp [ints] at hr
   subst this
   cases A with
   | none => rw [run_convert_bytes_nil w s e hs he _ _ d hd]; rfl
   | some ad => exact run_convert_bytes_back w s d e ad c [] hs he hd (fun j hj => by simp at hj)
  ·refine run_convert_bytes_back w s d e _ c l hs he hd (fun j hj => ?_)
   rw [Addr.add_mid]
   exact hr j _ (ints_get l j hj)
 unfold execOp
 simp only [ho, hx, Sem.run_bind, e]
 rfl
theorem tobytes_Bs (w : World) (e : TypeId) (l : List UInt8) (cp : Nat) (hcp : l.length ≤ cp) (fz : Nat × Nat) : Bs (w.drew.alloc (.cells (bytesRow ⟨l.toArray⟩ cp) e fz)) (.slice (some ⟨w.heap.size, 0, none⟩) l.length cp) (ints l) := by
 refine ⟨_, _, by rw [ints_length], by rw [ints_length]; exact hcp, .inr ⟨_, 0, rfl, fun j v hj => ?_⟩⟩
 have hj' : j < l.length := by
  have := (List.getElem?_eq_some_iff.1 hj).1
  simpa using this
 rw [ints_get l j hj'] at hj
 injection hj with hj
 subst hj
 have hb : (w.drew.alloc (.cells (bytesRow ⟨l.toArray⟩ cp) e fz)).heap[w.heap.size]? = some (.cells (bytesRow ⟨l.toArray⟩ cp) e fz) := by
  show (w.heap.push _)[w.heap.size]? = _
  simp
 rw [Lib.cell_of_heap hb, Nat.zero_add, bytesRow_at _ _ _ (by simpa using hj')]
 simp
theorem wl_tobytes {w : World} (hg : o.guard = none) (s d e : TypeId) (x : Operand) (ho : o.op = .convert s d x) (hs : P.underlying s = some .string) (hd : P.underlying d = some (.slice e)) (he : P.underlying e = some (.int .u8)) (l : List UInt8) (hx : a.eval x = .string ⟨l.toArray⟩)
  (h : ∀ v w', Bs w' v (ints l) → KZ w w' → w.heap.size < w'.heap.size → v.ownBlock = some w.heap.size → wpList P ops Q rest (a.put o.dst v) w') : wpList P ops Q (o :: rest) a w := by
 have e1 := run_bytes_of_string (P := P) w s d e ⟨l.toArray⟩ hs hd he
 rw [sz] at e1
 refine wl_run hg (v := .slice (some ⟨w.heap.size, 0, none⟩) l.length (grownCap w l.length 0 e)) (w' := w.drew.alloc (.cells (bytesRow ⟨l.toArray⟩ (grownCap w l.length 0 e)) e ((bytesRow ⟨l.toArray⟩ (grownCap w l.length 0 e)).size, (bytesRow ⟨l.toArray⟩ (grownCap w l.length 0 e)).size + 1))) ?_ (h _ _ (tobytes_Bs w e l _ (grownCap_ge _ _ _ _) _) (((Kp.refl _ w).drew).alloc _) ?_ rfl)
 ·unfold execOp
  simp only [ho, hx, Sem.run_bind, e1]
  rfl
 ·show w.heap.size < (w.heap.push _).size
  simp
/-! ### Small numbers -/
theorem and15 : ∀ c : Nat, c < 256 → bits .and .u8 (c : Int) 15 = ((c % 16 : Nat) : Int) := by decide +kernel
theorem or16 : ∀ h : Nat, h < 16 → ∀ m : Nat, m < 16 → bits .or .i64 ((16 * h : Nat) : Int) ((m : Nat) : Int) = ((16 * h + m : Nat) : Int) := by decide +kernel
theorem ex_and15 (w : World) (t t2 : TypeId) (x y : Operand) (ho : o.op = .binOp .and t x y t2) (c : Nat) (hc : c < 256) (hx : a.eval x = .int .u8 (c : Int)) (hy : a.eval y = .int .u8 15) : (execOp a.eval o).run P w = .ok (.value (.int .u8 ((c % 16 : Nat) : Int))) w := by
 unfold execOp
 simp only [ho, hx, hy, Sem.run_bind, eqGuard_and, binOp_and, intBits_and, and15 c hc, Sem.run_pure, Result.andThen_ok]
end Go.Proofs.YtkcechpaeilaeaaGreatDoor
namespace Go.Proofs.YtkcechpaeilaeaaGreatDoor
open Go.RowKit
variable {P : Program} {ops : Array Oper} {rest : List Oper} {o : Oper} {a : Act} {Q : Exit → Act → World → Prop} {K : Act → World → Prop}
theorem ex_toi64 (w : World) (s d : TypeId) (x : Operand) (ho : o.op = .convert s d x) (hs : (P.underlying s).isSome = true) (hd : P.underlying d = some (.int .i64)) (k : IntKind) (c : Nat) (hc : c < 256) (hx : a.eval x = .int k (c : Int)) :
  (execOp a.eval o).run P w = .ok (.value (.int .i64 (c : Int))) w := by
 unfold execOp
 have hk : P.intKind d = .i64 := by simp [Program.intKind, hd]
 have e := run_convert_int (P := P) w s d k c hs (by rw [hk]; exact hd)
 rw [hk] at e
 have hw : IntKind.i64.wrap (c : Int) = (c : Int) := by rw [IntKind.wrap_i64]; omega
 rw [hw] at e
 simp only [ho, hx, Sem.run_bind, e, Result.andThen_ok, Sem.run_pure]
theorem ex_tou8 (w : World) (s d : TypeId) (x : Operand) (ho : o.op = .convert s d x) (hs : (P.underlying s).isSome = true) (hd : P.underlying d = some (.int .u8)) (k : IntKind) (c : Nat) (hc : c < 256) (hx : a.eval x = .int k (c : Int)) :
  (execOp a.eval o).run P w = .ok (.value (.int .u8 (c : Int))) w := by
 unfold execOp
 have hk : P.intKind d = .u8 := by simp [Program.intKind, hd]
 have e := run_convert_int (P := P) w s d k c hs (by rw [hk]; exact hd)
 rw [hk] at e
 have hw : IntKind.u8.wrap (c : Int) = (c : Int) := by rw [IntKind.wrap_u8]; omega
 rw [hw] at e
 simp only [ho, hx, Sem.run_bind, e, Result.andThen_ok, Sem.run_pure]
theorem tdiv16 (c : Nat) : ((c : Int).tdiv 16) = ((c / 16 : Nat) : Int) := by
 rw [Int.tdiv_eq_ediv_of_nonneg (by omega)]; omega
theorem tmod16 (c : Nat) : ((c : Int).tmod 16) = ((c % 16 : Nat) : Int) := by
 rw [Int.tmod_eq_emod_of_nonneg (by omega)]; omega
theorem ex_quo16 (w : World) (t t2 : TypeId) (x y : Operand) (ho : o.op = .binOp .quo t x y t2) (c : Nat) (hc : c < 256) (hx : a.eval x = .int .i64 (c : Int)) (hy : a.eval y = .int .i64 16) : (execOp a.eval o).run P w = .ok (.value (.int .i64 ((c / 16 : Nat) : Int))) w := by
 have hw : IntKind.i64.wrap ((c / 16 : Nat) : Int) = ((c / 16 : Nat) : Int) := by rw [IntKind.wrap_i64]; omega
 have e : (binOp .quo t (.int .i64 (c : Int)) (.int .i64 16)).run P w = .ok (.int .i64 ((c / 16 : Nat) : Int)) w := by
  simp [binOp]
  rw [show Op.intDiv .quo .i64 (c : Int) 16 = pure (.int .i64 (IntKind.i64.wrap ((c : Int).tdiv 16))) by simp [Op.intDiv], tdiv16, hw]
  rfl
 unfold execOp
 simp only [ho, hx, hy, Sem.run_bind, eqGuard_quo, e, Sem.run_pure, Result.andThen_ok]
theorem ex_rem16 (w : World) (t t2 : TypeId) (x y : Operand) (ho : o.op = .binOp .rem t x y t2) (c : Nat) (hc : c < 256) (hx : a.eval x = .int .i64 (c : Int)) (hy : a.eval y = .int .i64 16) : (execOp a.eval o).run P w = .ok (.value (.int .i64 ((c % 16 : Nat) : Int))) w := by
 have hw : IntKind.i64.wrap ((c % 16 : Nat) : Int) = ((c % 16 : Nat) : Int) := by rw [IntKind.wrap_i64]; omega
 have e : (binOp .rem t (.int .i64 (c : Int)) (.int .i64 16)).run P w = .ok (.int .i64 ((c % 16 : Nat) : Int)) w := by
  simp [binOp]
  rw [show Op.intDiv .rem .i64 (c : Int) 16 = pure (.int .i64 ((c : Int).tmod 16)) by simp [Op.intDiv], tmod16]
  rfl
 unfold execOp
 simp only [ho, hx, hy, Sem.run_bind, eqGuard_rem, e, Sem.run_pure, Result.andThen_ok]
theorem fresh_Bs (w : World) (e : TypeId) (l : List Int) : Bs (w.alloc (.cells (u8s l).toArray e)) (.slice (some ⟨w.heap.size, 0, none⟩) l.length l.length) l := by
 refine ⟨_, _, rfl, Nat.le_refl _, .inr ⟨_, 0, rfl, fun j v hj => ?_⟩⟩
 have hb : (w.alloc (.cells (u8s l).toArray e)).heap[w.heap.size]? = some (.cells (u8s l).toArray e) := by
  show (w.heap.push _)[w.heap.size]? = _
  simp
 rw [Lib.cell_of_heap hb, Nat.zero_add]
 simpa using hj
theorem map_range1 (f : Nat → Value) : (Array.range 1).map f = #[f 0] := by
 apply Array.ext'
 simp [List.range, List.range.loop]
theorem map_range3 (f : Nat → Value) : (Array.range 3).map f = #[f 0, f 1, f 2] := by
 apply Array.ext'
 simp [List.range, List.range.loop]
theorem ex_bs (w : World) (t e : TypeId) (n : Nat) (xs : List Operand) (l : List Int) (ho : o.op = .buildSlice t n (xs.zipIdx.map (fun (x, i) => (i, x))).toArray) (ht : P.underlying t = some (.slice e)) (hn : n = l.length) (hx : xs.map a.eval = u8s l)
  (hi : (P.info? e).map (·.size) = some 1) (hz : (zeroValue e).run P w = .ok (.int .u8 0) w) (h1 : l.length = 1 ∨ l.length = 3) :
  (execOp a.eval o).run P w = .ok (.value (.slice (some ⟨w.heap.size, 0, none⟩) l.length l.length)) (w.alloc (.cells (u8s l).toArray e)) := by
 have hsz := sizeOf_run (P := P) w hi
 subst hn
 have hxl : xs.length = l.length := by have := congrArg List.length hx; simpa using this
 rcases h1 with h | h
 ·match l, xs, h, hxl, hx, ho with
  | [p], [x], _, _, hx, ho =>
   simp [u8s] at hx
   unfold execOp
   simp [ho, hx, Instr.buildSlice, Sem.run_bind, run_underlying ht, hsz, hz, Instr.fill, Value.cells, newRow, newObj, u8s, Sem.run, map_range1]
 ·match l, xs, h, hxl, hx, ho with
  | [p, q, r], [x, y, z], _, _, hx, ho =>
   simp [u8s] at hx
   unfold execOp
   simp [ho, hx, Instr.buildSlice, Sem.run_bind, run_underlying ht, hsz, hz, Instr.fill, Value.cells, newRow, newObj, u8s, Sem.run, map_range3]
end Go.Proofs.YtkcechpaeilaeaaGreatDoor
namespace Go.Proofs.YtkcechpaeilaeaaGreatDoor
open Go Go.RowKit
theorem wlG {P : Program} {ops : Array Oper} {Q : Exit → Act → World → Prop} {rest : List Oper} {o : Oper} {a : Act} {w w' : World} {v : Value} (hr : (execOp a.eval o).run P w = .ok (.value v) w') (h : wpList P ops Q rest (a.put o.dst v) w') (hw : Region.wanted o (yielded ops a.tmps) = true := by rfl) : wpList P ops Q (o :: rest) a w := wl_runG hw hr h
end Go.Proofs.YtkcechpaeilaeaaGreatDoor
