/- The act of a line: what is read of the line of an act that may be is that act, both ways. -/
import Derived.Test.YtkcechpaeilaeaaGreatDoorA1
namespace Go.Proofs.YtkcechpaeilaeaaGreatDoor
open Go.RowKit
set_option linter.unusedVariables false
set_option linter.unusedSimpArgs false

/-- The words between the blanks. -/
def spl (s : List UInt8) : List (List UInt8) := Lib.splitK [32] 0 s.length s
/-- The act that is read behind the name: the program's way. -/
def readS (d : Int) (r : List UInt8) : A :=
  let r2 := if hn d then rs r else r
  let r3 := if hk d then rs r2 else r2
  { d := d, n := if hn d then num (wd r) else 0, k := if hk d then (uq false (wd r2)).getD [] else [], t := if ht d then (uq true r3).getD [] else [],
    p := if d = 12 ∧ r3 ≠ [] then (spl r3).map (fun w => (num w % 256).toNat.toUInt8) else [] }
/-- The numbers of a crash. -/
def picks : Nat → List UInt8 → Option (List UInt8)
  | 0, _ => some []
  | f + 1, r => if r = [] then some [] else if dig (wd r) < 0 ∨ 255 < dig (wd r) then none else (picks f (rs r)).map ((dig (wd r)).toNat.toUInt8 :: ·)
/-- The act that is read behind the name: the document's way. -/
def readR (d : Int) (r : List UInt8) : Option A :=
  let r2 := if hk d then rs r else r
  let r3 := if hn d then rs r2 else r2
  (if d = 12 then picks 201 r3 else some []).map fun p =>
  { d := d, k := if hk d then (uq false (wd r)).getD [] else [], n := if hn d then dig (wd r2) else 0, t := if ht d then (uq true r3).getD [] else [], p := p }

theorem fields_cut (a : A) : wd (line a) = nm a.d ∧ rs (line a) = (fields a).tail := by
  have h0 := nm_no_blank a.d
  have h : fields a = [] ∨ ∃ y, fields a = 32 :: y := by
    unfold fields
    cases hn a.d <;> simp only [if_true, Bool.false_eq_true, if_false, List.nil_append, List.cons_append]
    · cases hk a.d <;> simp only [if_true, Bool.false_eq_true, if_false, List.nil_append, List.cons_append]
      · cases ht a.d <;> simp only [if_true, Bool.false_eq_true, if_false, List.nil_append, List.cons_append]
        · cases a.p with
          | nil => exact .inl rfl
          | cons c r => exact .inr ⟨_, rfl⟩
        · exact .inr ⟨_, rfl⟩
      · exact .inr ⟨_, rfl⟩
    · exact .inr ⟨_, rfl⟩
  unfold line
  rcases h with e | ⟨y, e⟩
  · rw [e, List.append_nil]
    exact wd_miss h0
  · rw [e]
    exact wd_hit h0 y
theorem pk_cons (c : UInt8) (p : List UInt8) : pk (c :: p) = 32 :: (Lib.itoa c.toNat ++ pk p) := by simp [pk]
theorem pk_cut (c : UInt8) (p : List UInt8) : wd (pk (c :: p)).tail = Lib.itoa c.toNat ∧ rs (pk (c :: p)).tail = (pk p).tail := by
  rw [pk_cons, List.tail_cons]
  cases p with
  | nil => simpa [pk] using wd_miss (itoa_no_blank c.toNat)
  | cons c' r => rw [pk_cons]; exact wd_hit (itoa_no_blank c.toNat) _
theorem picks_pk : ∀ (p : List UInt8) (f : Nat), p.length ≤ f → picks f (pk p).tail = some p
  | [], 0, _ => rfl
  | [], f + 1, _ => by rw [picks, if_pos (by rfl)]
  | c :: r, 0, h => by simp at h
  | c :: r, f + 1, h => by
    obtain ⟨h1, h2⟩ := pk_cut c r
    have hc := c.toNat_lt
    have e : (pk (c :: r)).tail ≠ [] := by
      rw [pk_cons, List.tail_cons]
      intro e
      exact itoa_ne _ (List.append_eq_nil_iff.1 e).1
    rw [picks, if_neg e, h1, h2, dig_itoa _ (by omega), if_neg (by omega), picks_pk r f (by simpa using h)]
    simp
theorem index_blank (x y : List UInt8) (h : (32 : UInt8) ∉ x) : Lib.index (x ++ 32 :: y) [32] = (x.length : Int) := by
  rw [Lib.index_one]
  induction x with
  | nil => simp [Lib.indexByte]
  | cons c r ih =>
    have hc : c ≠ 32 := fun e => h (by simp [e])
    have := ih (fun e => h (by simp [e]))
    rw [List.cons_append, Lib.indexByte, if_neg (by simpa using hc), this]
    simp
theorem index_no_blank (x : List UInt8) (h : (32 : UInt8) ∉ x) : Lib.index x [32] = -1 := by
  rw [Lib.index_one]
  induction x with
  | nil => simp [Lib.indexByte]
  | cons c r ih =>
    have hc : c ≠ 32 := fun e => h (by simp [e])
    have := ih (fun e => h (by simp [e]))
    rw [Lib.indexByte, if_neg (by simpa using hc), this]
    simp
theorem splitK_pk : ∀ (p : List UInt8) (c : UInt8) (f : Nat), p.length ≤ f → Lib.splitK [32] 0 f (pk (c :: p)).tail = (c :: p).map (fun c => Lib.itoa c.toNat)
  | [], c, f, _ => by
    have h := index_no_blank _ (itoa_no_blank c.toNat)
    rw [pk_cons, List.tail_cons]
    cases f with
    | zero => simp [Lib.splitK, pk]
    | succ f => simp [Lib.splitK, pk, h]
  | c' :: r, c, 0, h => by simp at h
  | c' :: r, c, f + 1, h => by
    rw [pk_cons, List.tail_cons, pk_cons c' r]
    have h1 := index_blank (Lib.itoa c.toNat) (Lib.itoa c'.toNat ++ pk r) (itoa_no_blank c.toNat)
    have ih := splitK_pk r c' f (by simpa using h)
    rw [pk_cons, List.tail_cons] at ih
    rw [Lib.splitK, h1]
    rw [if_neg (by simp)]
    simp only [Int.toNat_natCast, Nat.add_zero, List.take_left, List.map_cons, List.length_cons, List.length_nil]
    rw [show (Lib.itoa ↑c.toNat ++ 32 :: (Lib.itoa ↑c'.toNat ++ pk r)).drop ((Lib.itoa ↑c.toNat).length + (0 + 1)) = Lib.itoa ↑c'.toNat ++ pk r by
      rw [List.drop_append]; simp]
    rw [ih]
    simp
theorem pk_length (p : List UInt8) : p.length ≤ (pk p).length := by
  induction p with
  | nil => simp
  | cons c r ih => rw [pk_cons]; simp; omega
theorem spl_pk (c : UInt8) (p : List UInt8) : spl (pk (c :: p)).tail = (c :: p).map (fun c => Lib.itoa c.toNat) := by
  refine splitK_pk p c _ ?_
  rw [pk_cons, List.tail_cons, List.length_append]
  have := pk_length p
  omega
theorem num_u8 (c : UInt8) : (num (Lib.itoa c.toNat) % 256).toNat.toUInt8 = c := by
  have hc := c.toNat_lt
  rw [num_itoa _ (by omega)]
  rw [show ((c.toNat : Int) % 256).toNat = c.toNat by omega]
  simp
theorem pk_tail_nil (p : List UInt8) : (pk p).tail ≠ [] ↔ p ≠ [] := by
  cases p with
  | nil => simp [pk]
  | cons c r =>
    rw [pk_cons, List.tail_cons]
    simp [itoa_ne]
theorem kinds {d : Int} (h1 : 1 ≤ d) (h2 : d ≤ 14) : (d = 1 ∨ d = 2 ∨ d = 3 ∨ d = 10 ∨ d = 13 ∨ d = 14) ∨ (d = 4 ∨ d = 5) ∨ (d = 6 ∨ d = 7) ∨ d = 8 ∨ d = 9 ∨ d = 11 ∨ d = 12 := by omega
theorem readS_fields (a : A) (h : may a) : readS a.d (fields a).tail = a := by
  obtain ⟨d, k, t, n, p⟩ := a
  obtain ⟨h1, h2, h3, h4, h5, h6, h7, h8, h9, h10, h11⟩ := h
  simp only at *
  obtain ⟨m, rfl⟩ : ∃ m : Nat, n = m := ⟨n.toNat, by omega⟩
  have q1 := wd_hit (quote_no_blank k) (quote t true)
  have q2 := wd_miss (quote_no_blank k)
  have q3 := wd_hit (itoa_no_blank m) (quote t true)
  have q4 := wd_miss (itoa_no_blank m)
  rcases kinds h1 h2 with (rfl | rfl | rfl | rfl | rfl | rfl) | (rfl | rfl) | (rfl | rfl) | rfl | rfl | rfl | rfl
  case inr.inr.inr.inr.inr.inr =>
    simp [hk, ht, hn] at h8 h9 h10
    subst h8 h9 h10
    simp only [readS, fields, hk, ht, hn, decide_true, decide_false, Bool.and_true, Bool.true_and, Bool.or_false, Bool.and_false, Bool.false_and, if_true, if_false, Bool.false_eq_true, List.nil_append, Int.reduceLE, Int.reduceEq, pk_tail_nil]
    cases p with
    | nil => simp
    | cons c r =>
      simp only [ne_eq, reduceCtorEq, not_false_eq_true, and_self, if_true, spl_pk, List.map_map, Function.comp_def, num_u8, List.map_id']
      rfl
  all_goals
    simp [hk, ht, hn] at h8 h9 h10 h11
    try subst h8
    try subst h9
    try subst h10
    try subst h11
    simp [readS, fields, hk, ht, hn, pk]
  all_goals first
    | (simp [q1.1, q1.2, uq_quote]; done)
    | (simp [q2.1, q2.2, uq_quote]; done)
    | (simp [uq_quote]; done)
    | (simp [q3.1, q3.2, uq_quote]; exact num_itoa m (by omega))
    | (simp [q4.1, q4.2]; exact num_itoa m (by omega))
theorem readR_fields (a : A) (h : may a) : readR a.d (fields a).tail = some a := by
  obtain ⟨d, k, t, n, p⟩ := a
  obtain ⟨h1, h2, h3, h4, h5, h6, h7, h8, h9, h10, h11⟩ := h
  simp only at *
  obtain ⟨m, rfl⟩ : ∃ m : Nat, n = m := ⟨n.toNat, by omega⟩
  have q1 := wd_hit (quote_no_blank k) (quote t true)
  have q2 := wd_miss (quote_no_blank k)
  have q3 := wd_hit (itoa_no_blank m) (quote t true)
  have q4 := wd_miss (itoa_no_blank m)
  rcases kinds h1 h2 with (rfl | rfl | rfl | rfl | rfl | rfl) | (rfl | rfl) | (rfl | rfl) | rfl | rfl | rfl | rfl
  case inr.inr.inr.inr.inr.inr =>
    simp [hk, ht, hn] at h8 h9 h10
    subst h8 h9 h10
    simp [readR, fields, hk, ht, hn, picks_pk p 201 (by omega)]
  all_goals
    simp [hk, ht, hn] at h8 h9 h10 h11
    try subst h8
    try subst h9
    try subst h10
    try subst h11
    simp [readR, fields, hk, ht, hn, pk]
  all_goals first
    | (simp [q1.1, q1.2, uq_quote]; done)
    | (simp [q2.1, q2.2, uq_quote]; done)
    | (simp [uq_quote]; done)
    | (simp [q3.1, q3.2, uq_quote]; exact dig_itoa m (by omega))
    | (simp [q4.1, q4.2]; exact dig_itoa m (by omega))
/-- What reading a line comes to. -/
structure Says (l : List UInt8) (a : A) (ok : Bool) : Prop where
  yes : ok = true → may a ∧ line a = l
  no : ok = false → ∀ b, may b → line b ≠ l
/-- Two answers to one line are one. -/
theorem says_one {l : List UInt8} {a b : A} {p q : Bool} (h : Says l a p) (k : Says l b q) : p = q ∧ (p = true → a = b) := by
  have inj : ∀ a b : A, may a → may b → line a = line b → a = b := fun a b ha hb e => by
    obtain ⟨x1, x2⟩ := fields_cut a
    obtain ⟨y1, y2⟩ := fields_cut b
    rw [e] at x1 x2
    have hd : a.d = b.d := nm_inj ha.1 ha.2.1 hb.1 hb.2.1 (x1.symm.trans y1)
    rw [← readS_fields a ha, ← readS_fields b hb, hd, ← x2, ← y2]
  cases p <;> cases q
  · exact ⟨rfl, fun h => by cases h⟩
  · obtain ⟨h1, h2⟩ := k.yes rfl
    exact absurd h2 (h.no rfl b h1)
  · obtain ⟨h1, h2⟩ := h.yes rfl
    exact absurd h2 (k.no rfl a h1)
  · obtain ⟨h1, h2⟩ := h.yes rfl
    obtain ⟨h3, h4⟩ := k.yes rfl
    exact ⟨rfl, fun _ => inj a b h1 h3 (h2.trans h4.symm)⟩
/-- Which act a word names. -/
structure Names (x : List UInt8) (d : Int) : Prop where
  any : ∀ j : Int, 1 ≤ j → j ≤ 14 → nm j = x → d = j
  low : 0 ≤ d ∧ d ≤ 14
/-- The program's candidate. -/
theorem cand_S {l : List UInt8} {d : Int} (h : Names (wd l) d) {b : A} (hb : may b) (hl : line b = l) : readS d (rs l) = b := by
  obtain ⟨e1, e2⟩ := fields_cut b
  rw [hl] at e1 e2
  have : d = b.d := h.any b.d hb.1 hb.2.1 e1.symm
  rw [this, e2, readS_fields b hb]
theorem says_S {l : List UInt8} {d : Int} (h : Names (wd l) d) : Says l (readS d (rs l)) (decide (may (readS d (rs l)) ∧ line (readS d (rs l)) = l)) := by
  refine ⟨fun e => by simpa using e, fun e b hb hl => ?_⟩
  rw [cand_S h hb hl] at e
  simp [hb, hl] at e
theorem cand_R {l : List UInt8} {d : Int} (h : Names (wd l) d) {b : A} (hb : may b) (hl : line b = l) : readR d (rs l) = some b := by
  obtain ⟨e1, e2⟩ := fields_cut b
  rw [hl] at e1 e2
  have : d = b.d := h.any b.d hb.1 hb.2.1 e1.symm
  rw [this, e2, readR_fields b hb]
theorem says_R {l : List UInt8} {d : Int} (h : Names (wd l) d) {a : A} (ha : readR d (rs l) = some a) : Says l a (decide (may a ∧ line a = l)) := by
  refine ⟨fun e => by simpa using e, fun e b hb hl => ?_⟩
  have := cand_R h hb hl
  rw [ha] at this
  injection this with this
  subst this
  simp [hb, hl] at e
theorem says_R_none {l : List UInt8} {d : Int} (h : Names (wd l) d) (ha : readR d (rs l) = none) (z : A) : Says l z false := by
  refine ⟨fun e => (Bool.noConfusion e), fun e b hb hl => ?_⟩
  have := cand_R h hb hl
  rw [ha] at this
  cases this
theorem says_zero {l : List UInt8} (h : Names (wd l) 0) (z : A) : Says l z false := by
  refine ⟨fun e => (Bool.noConfusion e), fun e b hb hl => ?_⟩
  obtain ⟨e1, e2⟩ := fields_cut b
  rw [hl] at e1
  have := h.any b.d hb.1 hb.2.1 e1.symm
  have := hb.1
  omega
end Go.Proofs.YtkcechpaeilaeaaGreatDoor
