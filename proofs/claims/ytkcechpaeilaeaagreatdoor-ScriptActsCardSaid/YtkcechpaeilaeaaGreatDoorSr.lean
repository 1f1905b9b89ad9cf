/- The document's picks. -/
import Derived.Test.YtkcechpaeilaeaaGreatDoorSp
namespace Go.Proofs.YtkcechpaeilaeaaGreatDoor
open Go.RowKit
set_option linter.unusedVariables false
set_option linter.unusedSimpArgs false
set_option maxRecDepth 20000

theorem rcut_to {l x y : List UInt8} (h1 : wd l = x) (h2 : rs l = y) (hl : l.length < 20000) (w : World) : Calls Tryz.prog 53 #[.string ⟨l.toArray⟩] w fun e w' => (∃ b, e = .returned (.tuple #[.string ⟨x.toArray⟩, .string ⟨y.toArray⟩, .bool b])) ∧ Kp (fun _ => False) w w' := by
  subst h1 h2; exact rcut_at l (by omega) w
theorem dig_to {s : List UInt8} {v : Int} (h : dig s = v) (hs : s.length < 20000) (w : World) : Calls Tryz.prog 54 #[.string ⟨s.toArray⟩] w fun e w' => e = .returned (.int .i64 v) ∧ w = w' := by
  subst h; exact dig_at s (by omega) w
theorem rname_j {j : Int} (h1 : 1 ≤ j) (h2 : j ≤ 14) (w : World) : Calls Tryz.prog 45 #[.int .i64 j] w fun e w' => e = .returned (.string ⟨(nm j).toArray⟩) ∧ Kp (fun _ => False) w w' := rname_d h1 h2 w
theorem rs_lt {l : List UInt8} (h : l ≠ []) : (rs l).length < l.length := by
  rcases wd_split l with ⟨_, _, h3⟩ | ⟨_, h2⟩
  · rw [h3]
    exact List.length_pos_iff.2 h
  · have := congrArg List.length h2
    rw [List.length_append, List.length_cons] at this
    omega
theorem picks_nil (f : Nat) : picks f [] = some [] := by
  cases f <;> simp [picks]
theorem picks_bad {f : Nat} {r : List UInt8} (hr : r ≠ []) (h : dig (wd r) < 0 ∨ 255 < dig (wd r)) : picks (f + 1) r = none := by rw [picks, if_neg hr, if_pos h]
theorem picks_good {f : Nat} {r : List UInt8} (hr : r ≠ []) (h : ¬ (dig (wd r) < 0 ∨ 255 < dig (wd r))) : picks (f + 1) r = (picks f (rs r)).map ((dig (wd r)).toNat.toUInt8 :: ·) := by rw [picks, if_neg hr, if_neg h]
/-- How far the picks are read. -/
structure Pr (R r q : List UInt8) : Prop where
  most : q.length ≤ 201
  is : picks 201 R = (picks (201 - q.length) r).map (q ++ ·)
theorem Pr.start (R : List UInt8) : Pr R R [] := ⟨by simp, by simp⟩
theorem Pr.done {R r q : List UInt8} (h : Pr R r q) (e : r = [] ∨ q.length = 201) : picks 201 R = some q := by
  rw [h.is]
  rcases e with rfl | e
  · rw [picks_nil]; simp
  · rw [e]; simp [picks]
theorem Pr.bad {R r q : List UInt8} (h : Pr R r q) (hr : r ≠ []) (hq : q.length ≤ 200) (hd : dig (wd r) < 0 ∨ 255 < dig (wd r)) : picks 201 R = none := by
  rw [h.is, show 201 - q.length = (200 - q.length) + 1 by omega, picks_bad hr hd]
  rfl
theorem Pr.next {R r q : List UInt8} (h : Pr R r q) (hr : r ≠ []) (hq : q.length ≤ 200) (hd : ¬ (dig (wd r) < 0 ∨ 255 < dig (wd r))) : Pr R (rs r) (q ++ [(dig (wd r)).toNat.toUInt8]) := by
  refine ⟨by simp; omega, ?_⟩
  rw [h.is, show 201 - q.length = (200 - q.length) + 1 by omega, picks_good hr hd, List.length_append, List.length_cons, List.length_nil, show 201 - (q.length + (0 + 1)) = 200 - q.length by omega]
  cases picks (200 - q.length) (rs r) <;> simp
/-- The length of a text. -/
def lenOf : Value → Nat
  | .string s => s.size
  | _ => 0
theorem lenOf_S (l : List UInt8) : lenOf (.string ⟨l.toArray⟩) = l.length := sz l
theorem readR_12 {d : Int} {r p : List UInt8} (h1 : hk d = false) (h2 : hn d = false) (h3 : ht d = false) (hd : decide (d = 12) = true) (hp : picks 201 r = some p) : readR d r = some ⟨d, [], [], 0, p⟩ := by
  have hd := of_decide_eq_true hd
  simp only [readR, h1, h2, h3, Bool.false_eq_true, if_false]
  rw [if_pos hd, hp]
  rfl
theorem readR_12n {d : Int} {r : List UInt8} (h1 : hk d = false) (h2 : hn d = false) (h3 : ht d = false) (hd : decide (d = 12) = true) (hp : picks 201 r = none) : readR d r = none := by
  have hd := of_decide_eq_true hd
  simp only [readR, h1, h2, h3, Bool.false_eq_true, if_false]
  rw [if_pos hd, hp]
  rfl
/-- Behind an append to the picks. -/
structure Hw (w w4 : World) (Z B : Nat) (d : Int) (q q2 : List UInt8) (Ap A2 : Option Addr) (cp c2 : Nat) : Prop where
  av : Av w w4 Z B (.int .i64 d) (.string ⟨([] : List UInt8).toArray⟩) (.slice none ([] : List UInt8).length 0) (.int .i64 0) (.slice Ap q.length cp)
  op : Ob (B + 1) w4 (.slice A2 q2.length c2) (ints q2)
theorem Aw.grow {w w3 w4 : World} {Z B : Nat} {d : Int} {q : List UInt8} {Ap : Option Addr} {cp : Nat} (h : Aw w w3 Z B d [] [] 0 q none 0 Ap cp) {A2 : Option Addr} {c2 : Nat} {q2 : List UInt8} (ho : Ob (B + 1) w4 (.slice A2 q2.length c2) (ints q2)) (hb : Below (B + 1) w3 w4) : Hw w w4 Z B d q q2 Ap A2 cp c2 := by
  have h0 := h.av.hz
  have h1 := h.av.ne
  refine ⟨⟨?_, (hb.block Z (by omega)).trans h.av.zero, (hb.block B (by omega)).trans h.av.act, h.av.hz, h.av.ne⟩, ho⟩
  exact h.av.old.trans ⟨hb.os, hb.tape, hb.output, hb.size, fun k hk => hb.block k (by omega)⟩
theorem Aw.size1 {w w3 : World} {Z B : Nat} {d : Int} {q : List UInt8} {Ap : Option Addr} {cp : Nat} (h : Aw w w3 Z B d [] [] 0 q none 0 Ap cp) : B + 1 ≤ w3.heap.size := h.av.lt
end Go.Proofs.YtkcechpaeilaeaaGreatDoor
