/- Acts and their lines, as the document has them: the line of an act that may be is read as that act. -/
import Derived.Test.YtkcechpaeilaeaaGreatDoorA0
namespace Go.Proofs.YtkcechpaeilaeaaGreatDoor
open Go.RowKit
set_option linter.unusedVariables false
set_option linter.unusedSimpArgs false

structure A where
  d : Int
  k : List UInt8
  t : List UInt8
  n : Int
  p : List UInt8
def nms : List (List UInt8) := [[], [98, 101, 103, 105, 110], [99, 111, 109, 109, 105, 116], [97, 98, 111, 114, 116], [97, 100, 100], [117, 112, 100, 97, 116, 101], [100, 101, 108, 101, 116, 101], [103, 101, 116], [115, 101, 97, 114, 99, 104], [114, 97, 110, 107], [99, 111, 109, 112, 97, 99, 116], [97, 114, 109], [99, 114, 97, 115, 104], [111, 112, 101, 110], [115, 116, 97, 116]]
def nm (d : Int) : List UInt8 := nms.getD d.toNat []
def hk (d : Int) : Bool := decide (4 ≤ d) && decide (d ≤ 7)
def ht (d : Int) : Bool := decide (d = 4) || decide (d = 5) || decide (d = 8) || decide (d = 9)
def hn (d : Int) : Bool := decide (d = 9) || decide (d = 11)
def may (a : A) : Prop := 1 ≤ a.d ∧ a.d ≤ 14 ∧ a.k.length ≤ 2000 ∧ a.t.length ≤ 2000 ∧ a.p.length ≤ 200 ∧ 0 ≤ a.n ∧ a.n ≤ 1048576
  ∧ decide (a.k ≠ []) = hk a.d ∧ (a.t = [] ∨ ht a.d = true) ∧ (a.n = 0 ∨ hn a.d = true) ∧ (a.p = [] ∨ a.d = 12)
instance (a : A) : Decidable (may a) := by unfold may; infer_instance
def pk (p : List UInt8) : List UInt8 := p.flatMap (fun c => 32 :: Lib.itoa c.toNat)
/-- What stands behind the name. -/
def fields (a : A) : List UInt8 := (if hn a.d then 32 :: Lib.itoa a.n else []) ++ ((if hk a.d then 32 :: quote a.k false else []) ++ ((if ht a.d then 32 :: quote a.t true else []) ++ pk a.p))
def line (a : A) : List UInt8 := nm a.d ++ fields a

def wd (l : List UInt8) : List UInt8 := l.takeWhile (· != 32)
def rs (l : List UInt8) : List UInt8 := (l.dropWhile (· != 32)).tail
theorem wd_hit {x : List UInt8} (h : (32 : UInt8) ∉ x) (y : List UInt8) : wd (x ++ 32 :: y) = x ∧ rs (x ++ 32 :: y) = y := by
  induction x with
  | nil => simp [wd, rs]
  | cons c r ih =>
    have hc : c ≠ 32 := fun e => h (by simp [e])
    obtain ⟨i1, i2⟩ := ih (fun e => h (by simp [e]))
    constructor
    · simp only [wd, List.cons_append] at i1 ⊢
      rw [List.takeWhile_cons, if_pos (by simpa using hc), i1]
    · simp only [rs, List.cons_append] at i2 ⊢
      rw [List.dropWhile_cons, if_pos (by simpa using hc), i2]
theorem wd_miss {x : List UInt8} (h : (32 : UInt8) ∉ x) : wd x = x ∧ rs x = [] := by
  induction x with
  | nil => simp [wd, rs]
  | cons c r ih =>
    have hc : c ≠ 32 := fun e => h (by simp [e])
    obtain ⟨i1, i2⟩ := ih (fun e => h (by simp [e]))
    constructor
    · simp only [wd] at i1 ⊢
      rw [List.takeWhile_cons, if_pos (by simpa using hc), i1]
    · simp only [rs] at i2 ⊢
      rw [List.dropWhile_cons, if_pos (by simpa using hc), i2]
theorem nms_no_blank : ∀ x ∈ nms, (32 : UInt8) ∉ x := by decide
theorem nm_no_blank (d : Int) : (32 : UInt8) ∉ nm d := by
  unfold nm
  rw [List.getD_eq_getElem?_getD]
  cases h : nms[d.toNat]? with
  | none => simp
  | some x => exact nms_no_blank x (List.mem_of_getElem? h)
theorem nm_inj_nat : ∀ i, i < 15 → ∀ j, j < 15 → nms.getD i [] = nms.getD j [] → i = j := by decide
theorem nm_inj {i j : Int} (hi : 1 ≤ i) (hi2 : i ≤ 14) (hj : 1 ≤ j) (hj2 : j ≤ 14) (h : nm i = nm j) : i = j := by
  have := nm_inj_nat i.toNat (by omega) j.toNat (by omega) h
  omega
theorem nm_ne_nil {i : Int} (hi : 1 ≤ i) (hi2 : i ≤ 14) : nm i ≠ [] := by
  intro h
  have := nm_inj_nat i.toNat (by omega) 0 (by omega) h
  omega
theorem nm_nil {i : Int} (h : i < 1 ∨ 14 < i) : nm i = [] := by
  unfold nm
  rcases h with h | h
  · rw [show i.toNat = 0 by omega]; rfl
  · rw [List.getD_eq_getElem?_getD, List.getElem?_eq_none (by show 15 ≤ _; omega)]; rfl

/-! ### Numbers -/
theorem digs_mem (u : Nat) : ∀ c ∈ Lib.decDigits u, 48 ≤ c.toNat ∧ c.toNat ≤ 57 := by
  induction u using Nat.strongRecOn with
  | _ u ih =>
    intro c hc
    rw [Lib.decDigits] at hc
    split at hc
    · rename_i h
      simp at hc
      subst hc
      simp
      omega
    · rename_i h
      rcases List.mem_append.1 hc with hc | hc
      · exact ih (u / 10) (by omega) c hc
      · simp at hc
        subst hc
        simp
        omega
theorem itoa_no_blank (n : Nat) : (32 : UInt8) ∉ Lib.itoa n := by
  rw [Lib.itoa_nonneg]
  intro h
  have := digs_mem n _ h
  revert this
  decide
theorem parse_append (x : List UInt8) (c : UInt8) (hc : 48 ≤ c.toNat ∧ c.toNat ≤ 57) : ∀ (acc v : Nat), Lib.parseUint10 acc x = .ok v → v < 1844674407370955161 → Lib.parseUint10 acc (x ++ [c]) = .ok (v * 10 + (c.toNat - 48)) := by
  induction x with
  | nil =>
    intro acc v h hv
    simp only [Lib.parseUint10] at h
    injection h with h
    subst h
    simp only [List.nil_append, Lib.parseUint10, hc, and_self, if_true]
    rw [if_neg (by omega), if_neg (by omega)]
  | cons a r ih =>
    intro acc v h hv
    simp only [List.cons_append, Lib.parseUint10] at h ⊢
    split at h
    · rename_i ha
      rw [if_pos ha]
      split at h
      · cases h
      · rename_i h1
        rw [if_neg h1]
        split at h
        · cases h
        · rename_i h2
          rw [if_neg h2]
          exact ih _ _ h hv
    · cases h
theorem parse_digs (u : Nat) : u < 10000000000000000000 → Lib.parseUint10 0 (Lib.decDigits u) = .ok u := by
  induction u using Nat.strongRecOn with
  | _ u ih =>
    intro hu
    rw [Lib.decDigits]
    split
    · rename_i h
      have e : (UInt8.ofNat (48 + u)).toNat = 48 + u := by simp; omega
      simp only [Lib.parseUint10, e]
      rw [if_pos (by omega), if_neg (by omega), if_neg (by omega)]
      congr 1
      omega
    · rename_i h
      have e : (UInt8.ofNat (48 + u % 10)).toNat = 48 + u % 10 := by simp; omega
      rw [parse_append _ _ (by rw [e]; omega) 0 (u / 10) (ih (u / 10) (by omega) (by omega)) (by omega), e]
      congr 1
      omega
theorem digs_ne (u : Nat) : Lib.decDigits u ≠ [] := by
  intro h
  have := congrArg List.length h
  rw [Lib.decDigits_length] at this
  have := Lib.nDigits_pos u
  simp at *
  omega
/-- A number is read as itself. -/
theorem atoi_itoa (n : Nat) (h : n < 9223372036854775808) : Lib.atoiAll (Lib.itoa n) = .ok (n : Int) := by
  rw [Lib.itoa_nonneg]
  have h1 := parse_digs n (by omega)
  have h2 := digs_mem n
  have h3 := digs_ne n
  cases h4 : Lib.decDigits n with
  | nil => exact absurd h4 h3
  | cons c r =>
    have hc := h2 c (by simp [h4])
    rw [h4] at h1
    simp only [Lib.atoiAll]
    rw [if_neg (by omega), Lib.parseMag, if_neg (by simp), h1]
    simp only
    rw [if_neg (by omega), if_neg (by omega), if_neg (by omega)]
/-- The number beside how a reading ends. -/
def num (s : List UInt8) : Int := match Lib.atoiAll s with
  | .ok v => v
  | .syntax => 0
  | .range => Lib.atoiSat s
theorem num_itoa (n : Nat) (h : n < 9223372036854775808) : num (Lib.itoa n) = n := by rw [num, atoi_itoa n h]
/-- A word's digits; -1: they are none. -/
def digstep : List UInt8 → Nat → Int
  | [], n => n
  | c :: r, n => if 48 ≤ c.toNat ∧ c.toNat ≤ 57 then digstep r (n * 10 + (c.toNat - 48)) else -1
def dig (s : List UInt8) : Int := if s = [] ∨ 9 < s.length ∨ (1 < s.length ∧ s.head? = some 48) then -1 else digstep s 0
theorem digstep_append (x : List UInt8) (c : UInt8) (hc : 48 ≤ c.toNat ∧ c.toNat ≤ 57) : ∀ (acc v : Nat), digstep x acc = (v : Int) → digstep (x ++ [c]) acc = ((v * 10 + (c.toNat - 48) : Nat) : Int) := by
  induction x with
  | nil =>
    intro acc v h
    simp only [digstep] at h
    simp only [List.nil_append, digstep, hc, and_self, if_true]
    omega
  | cons a r ih =>
    intro acc v h
    simp only [List.cons_append, digstep] at h ⊢
    split at h
    · rename_i ha
      rw [if_pos ha]
      exact ih _ _ h
    · omega
theorem dig_digs (u : Nat) : digstep (Lib.decDigits u) 0 = u := by
  induction u using Nat.strongRecOn with
  | _ u ih =>
    rw [Lib.decDigits]
    split
    · rename_i h
      have e : (UInt8.ofNat (48 + u)).toNat = 48 + u := by simp; omega
      simp only [digstep, e]
      rw [if_pos (by omega)]
      omega
    · rename_i h
      have e : (UInt8.ofNat (48 + u % 10)).toNat = 48 + u % 10 := by simp; omega
      rw [digstep_append _ _ (by rw [e]; omega) 0 (u / 10) (ih (u / 10) (by omega)), e]
      omega
theorem digs_head (u : Nat) : (Lib.decDigits u).head? = some 48 → u = 0 := by
  induction u using Nat.strongRecOn with
  | _ u ih =>
    rw [Lib.decDigits]
    split
    · rename_i h
      intro e
      simp at e
      have := congrArg UInt8.toNat e
      simp at this
      omega
    · rename_i h
      have := digs_ne (u / 10)
      cases h4 : Lib.decDigits (u / 10) with
      | nil => exact absurd h4 this
      | cons c r =>
        intro e
        have := ih (u / 10) (by omega) (by rw [h4]; simpa using e)
        omega
theorem nDigits_le : ∀ (k u : Nat), u < 10 ^ (k + 1) → Lib.nDigits u ≤ k + 1
  | 0, u, h => by rw [Lib.nDigits_small (by omega)]; omega
  | k + 1, u, h => by
    by_cases h2 : u < 10
    · rw [Lib.nDigits_small h2]; omega
    · rw [Lib.nDigits_big h2]
      have := nDigits_le k (u / 10) (by rw [Nat.pow_succ] at h; omega)
      omega
theorem dig_itoa (n : Nat) (h : n < 1000000000) : dig (Lib.itoa n) = n := by
  rw [Lib.itoa_nonneg, dig, if_neg, dig_digs]
  rintro (h1 | h1 | ⟨h1, h2⟩)
  · exact digs_ne n h1
  · rw [Lib.decDigits_length] at h1
    have := nDigits_le 8 n (by omega)
    omega
  · have := digs_head n h2
    subst this
    rw [Lib.decDigits] at h1
    simp at h1
theorem itoa_ne (n : Nat) : Lib.itoa n ≠ [] := by rw [Lib.itoa_nonneg]; exact digs_ne n
end Go.Proofs.YtkcechpaeilaeaaGreatDoor
