/- Quotes: what bytes are quoted as, and what a quote says. -/
import Derived.Test.YtkcechpaeilaeaaGreatDoorQ2
import Derived.Test.YtkcechpaeilaeaaGreatDoorShelf
namespace Go.Proofs.YtkcechpaeilaeaaGreatDoor
open Go.RowKit
set_option linter.unusedVariables false
set_option linter.unusedSimpArgs false

/-- Bytes as numbers. -/
def ints (l : List UInt8) : List Int := l.map (fun c => (c.toNat : Int))
@[simp] theorem ints_length (l : List UInt8) : (ints l).length = l.length := by simp [ints]
theorem ints_append (a b : List UInt8) : ints (a ++ b) = ints a ++ ints b := by simp [ints]
theorem ints_cells (l : List UInt8) : u8s (ints l) = Lib.byteCells l := by simp [u8s, ints, Lib.byteCells]
theorem ints_get (l : List UInt8) (k : Nat) (h : k < l.length) : (u8s (ints l))[k]? = some (.int .u8 (l[k].toNat : Int)) := by simp [u8s, ints, h]
theorem ints_inj {a b : List UInt8} (h : ints a = ints b) : a = b := by
  induction a generalizing b with
  | nil => cases b with
    | nil => rfl
    | cons _ _ => simp [ints] at h
  | cons x r ih => cases b with
    | nil => simp [ints] at h
    | cons y t =>
      simp only [ints, List.map_cons, List.cons.injEq] at h
      rw [ih (b := t) h.2, UInt8.toNat_inj.1 (show x.toNat = y.toNat by omega)]
/-- What a byte is quoted as. -/
def qone (bl : Bool) (c : UInt8) : List UInt8 := if pln c.toNat bl then [c] else [92, (hxd (c.toNat / 16)).toUInt8, (hxd (c.toNat % 16)).toUInt8]
def quote (l : List UInt8) (bl : Bool) : List UInt8 := l.flatMap (qone bl)
theorem qone_length (bl : Bool) (c : UInt8) : (qone bl c).length ≤ 3 := by unfold qone; split <;> simp
theorem quote_cons (c : UInt8) (l : List UInt8) (bl : Bool) : quote (c :: l) bl = qone bl c ++ quote l bl := by simp [quote]
theorem quote_length (l : List UInt8) (bl : Bool) : (quote l bl).length ≤ 3 * l.length := by
  induction l with
  | nil => simp [quote]
  | cons c r ih =>
    have := qone_length bl c
    simp [quote] at ih ⊢
    omega
theorem quote_append (a b : List UInt8) (bl : Bool) : quote (a ++ b) bl = quote a bl ++ quote b bl := by simp [quote]
theorem quote_take {l : List UInt8} {k : Nat} (h : k < l.length) (bl : Bool) : quote (l.take (k + 1)) bl = quote (l.take k) bl ++ qone bl l[k] := by
  rw [List.take_succ_eq_append_getElem h, quote_append]; simp [quote]
abbrev hexl : List UInt8 := [48, 49, 50, 51, 52, 53, 54, 55, 56, 57, 97, 98, 99, 100, 101, 102]

/-- The byte of two digits. -/
def hl (h m : UInt8) : Nat := 16 * vld h.toNat + vld m.toNat
/-- What a quote says, read from the left. -/
def uq (bl : Bool) : List UInt8 → Option (List UInt8)
  | [] => some []
  | c :: r =>
    if pln c.toNat bl then (uq bl r).map (c :: ·)
    else match r with
      | h :: m :: r' => if c = 92 ∧ vld h.toNat < 16 ∧ vld m.toNat < 16 ∧ pln (hl h m) bl = false then (uq bl r').map ((hl h m).toUInt8 :: ·) else none
      | _ => none
/-- What a text says, if it is a quote. -/
def un : List UInt8 → Option (List UInt8)
  | [] => some []
  | c :: r =>
    if c = 92 then match r with
      | h :: m :: r' => if vld h.toNat < 16 ∧ vld m.toNat < 16 then (un r').map ((hl h m).toUInt8 :: ·) else none
      | _ => none
    else (un r).map (c :: ·)
theorem uq_pln (bl : Bool) {c : UInt8} (r : List UInt8) (hp : pln c.toNat bl = true) : uq bl (c :: r) = (uq bl r).map (c :: ·) := by rw [uq.eq_def]; simp [hp]
theorem un_pln {c : UInt8} (r : List UInt8) (hp : c ≠ 92) : un (c :: r) = (un r).map (c :: ·) := by rw [un.eq_def]; simp [hp]
theorem hxd_lt {n : Nat} (h : n < 16) : hxd n < 256 := by unfold hxd; split <;> omega
theorem hxd_u8 {n : Nat} (h : n < 16) : (hxd n).toUInt8.toNat = hxd n := by simp; exact hxd_lt h
theorem pln_92 (bl : Bool) : pln 92 bl = false := by cases bl <;> decide
theorem un_quote (l : List UInt8) (bl : Bool) : un (quote l bl) = some l := by
  induction l with
  | nil => rfl
  | cons c r ih =>
    rw [quote_cons, qone]
    cases hp : pln c.toNat bl
    · have hc := c.toNat_lt
      have h1 : c.toNat / 16 < 16 := by omega
      have h2 : c.toNat % 16 < 16 := by omega
      simp only [Bool.false_eq_true, if_false, List.cons_append, List.nil_append]
      rw [un]
      simp only [if_true, hl, hxd_u8 h1, hxd_u8 h2, vld_hxd h1 rfl, vld_hxd h2 rfl, h1, h2, and_self, ih, Option.map_some]
      rw [Nat.div_add_mod]
      simp
    · have : c ≠ 92 := by
        rintro rfl
        rw [show (92 : UInt8).toNat = 92 from rfl, pln_92] at hp
        cases hp
      simp only [if_true, List.cons_append, List.nil_append]
      rw [un_pln _ this, ih]
      rfl
theorem uq_quote (l : List UInt8) (bl : Bool) : uq bl (quote l bl) = some l := by
  induction l with
  | nil => rfl
  | cons c r ih =>
    rw [quote_cons, qone]
    cases hp : pln c.toNat bl
    · have hc := c.toNat_lt
      have h1 : c.toNat / 16 < 16 := by omega
      have h2 : c.toNat % 16 < 16 := by omega
      simp only [Bool.false_eq_true, if_false, List.cons_append, List.nil_append]
      rw [uq, if_neg (by rw [show (92 : UInt8).toNat = 92 from rfl, pln_92]; simp)]
      simp only [hl, hxd_u8 h1, hxd_u8 h2, vld_hxd h1 rfl, vld_hxd h2 rfl, h1, h2, true_and, ih, Option.map_some]
      rw [Nat.div_add_mod, hp]
      simp
    · simp only [if_true, List.cons_append, List.nil_append]
      rw [uq_pln _ _ hp, ih]
      rfl
theorem hl_lt {h m : UInt8} (a : vld h.toNat < 16) (b : vld m.toNat < 16) : hl h m < 256 := by unfold hl; omega
theorem quote_uq (bl : Bool) : ∀ (s b : List UInt8), uq bl s = some b → quote b bl = s := by
  intro s
  induction s using uq.induct bl with
  | case1 => intro b h; rw [uq] at h; injection h with h; subst h; rfl
  | case2 c r hp ih =>
    intro b h
    rw [uq_pln _ _ hp] at h
    obtain ⟨t, h1, rfl⟩ := Option.map_eq_some_iff.1 h
    rw [quote_cons, ih t h1, qone, if_pos hp]
    rfl
  | case3 c hp h m r' hc ih =>
    intro b hb
    rw [uq, if_neg hp] at hb
    simp only [hc, and_self, if_true] at hb
    obtain ⟨t, h1, rfl⟩ := Option.map_eq_some_iff.1 hb
    obtain ⟨rfl, h2, h3, h4⟩ := hc
    have h5 := hl_lt h2 h3
    have h6 : (hl h m).toUInt8.toNat = hl h m := by simp; exact h5
    have h7 : hl h m / 16 = vld h.toNat := by unfold hl; omega
    have h8 : hl h m % 16 = vld m.toNat := by unfold hl; omega
    rw [quote_cons, ih t h1, qone, h6, h4, h7, h8, hxd_vld h2, hxd_vld h3]
    simp
  | case4 c hp h m r' hc =>
    intro b hb
    rw [uq, if_neg hp] at hb
    simp only [hc, if_false] at hb
    cases hb
  | case5 c r hp hr =>
    intro b hb
    rw [uq.eq_def] at hb
    simp only [hp] at hb
    simp at hb
theorem uq_iff (bl : Bool) (s b : List UInt8) : uq bl s = some b ↔ quote b bl = s := ⟨quote_uq bl s b, fun h => by rw [← h, uq_quote]⟩
/-- The other reading comes to the same. -/
theorem un_uq (bl : Bool) (s : List UInt8) : (un s).bind (fun b => if quote b bl = s then some b else none) = uq bl s := by
  cases h : uq bl s with
  | some b =>
    have e := quote_uq bl s b h
    have := un_quote b bl
    rw [e] at this
    rw [this]
    simp [e]
  | none =>
    cases h2 : un s with
    | none => rfl
    | some b =>
      simp only [Option.bind_some]
      split
      · rename_i e
        rw [← e, uq_quote] at h
        cases h
      · rfl
theorem quote_no_blank (l : List UInt8) : (32 : UInt8) ∉ quote l false := by
  intro h
  obtain ⟨c, -, h⟩ := List.mem_flatMap.1 h
  unfold qone at h
  split at h
  · rename_i hp
    simp at h
    subst h
    revert hp
    decide
  · have hc := c.toNat_lt
    have h1 : ∀ n, n < 16 → (hxd n).toUInt8 ≠ 32 := by decide
    simp at h
    rcases h with h | h
    · exact h1 (c.toNat / 16) (by omega) (by simpa using h.symm)
    · exact h1 (c.toNat % 16) (by omega) (by simpa using h.symm)
end Go.Proofs.YtkcechpaeilaeaaGreatDoor
