/- A builder that is being written, beside an act in memory. -/
import Derived.Test.YtkcechpaeilaeaaGreatDoorE1
import Derived.Test.YtkcechpaeilaeaaGreatDoorB1
namespace Go.Proofs.YtkcechpaeilaeaaGreatDoor
open Go.RowKit
set_option linter.unusedVariables false
set_option linter.unusedSimpArgs false

theorem bdAt_keep {b : Nat} {p : Value} {bs : List Value} {w w' : World} (h : Lib.BuilderAtF 64 5 b b p bs w) (hk : Kp (fun _ => False) w w') : Lib.BuilderAtF 64 5 b b p bs w' := by
  obtain ⟨hB, v, hb, hown, hne⟩ := h
  refine ⟨hB, v, hk.keeps hb id, ⟨hown.1, ?_⟩, hne⟩
  rcases hown.2 with h | ⟨g, cap, cur, fz, hv, hg, hh, r⟩
  · exact .inl h
  · exact .inr ⟨g, cap, cur, fz, hv, hg, hk.keeps hh id, r⟩
theorem Bd.keep {w w' : World} {b : Nat} {l : List UInt8} (h : Bd w b l) (hk : Kp (fun _ => False) w w') : Bd w' b l := h.elim (fun h => .inl (bdAt_keep h hk)) (fun h => .inr (bdAt_keep h hk))
theorem ex_scatv {P : Program} {o : Oper} {a : Act} (w : World) (t t2 : TypeId) (x y : Operand) (ho : o.op = .binOp .add t x y t2) (p q r : List UInt8) (hl : p.length + q.length ≤ 9000000000000000000) (hr : r = p ++ q)
    (hx : a.eval x = .string ⟨p.toArray⟩) (hy : a.eval y = .string ⟨q.toArray⟩) : (execOp a.eval o).run P w = .ok (.value (.string ⟨r.toArray⟩)) w := by
  subst hr; exact ex_scat w t t2 x y ho p q hl hx hy
theorem rname_d {d : Int} (h1 : 1 ≤ d) (h2 : d ≤ 14) (w : World) : Calls Tryz.prog 45 #[.int .i64 d] w fun e w' => e = .returned (.string ⟨(nm d).toArray⟩) ∧ Kp (fun _ => False) w w' := by
  obtain ⟨k, rfl⟩ : ∃ k : Nat, d = k := ⟨d.toNat, by omega⟩
  exact rname_at k (by omega) w
theorem number_z {z : Int} (h0 : 0 ≤ z) (h1 : z < 1000000000) (w : World) : Calls Tryz.prog 48 #[.int .i64 z] w fun e w' => e = .returned (.string ⟨(Lib.itoa z).toArray⟩) ∧ Kp (fun _ => False) w w' := by
  obtain ⟨k, rfl⟩ : ∃ k : Nat, z = k := ⟨z.toNat, by omega⟩
  exact number_at k (by omega) w
theorem nm_len (d : Int) : (nm d).length ≤ 7 := by
  unfold nm
  rw [List.getD_eq_getElem?_getD]
  have : ∀ x ∈ nms, x.length ≤ 7 := by decide
  cases h : nms[d.toNat]? with
  | none => simp
  | some x => exact this x (List.mem_of_getElem? h)
theorem pk_take {p : List UInt8} {j : Nat} {c : UInt8} (h : p[j]? = some c) : pk (p.take (j + 1)) = pk (p.take j) ++ (32 :: Lib.itoa (c.toNat : Int)) := by
  obtain ⟨h1, rfl⟩ := List.getElem?_eq_some_iff.1 h
  unfold pk
  rw [List.take_succ_eq_append_getElem h1, List.flatMap_append]
  simp only [List.flatMap_cons, List.flatMap_nil, List.append_nil]
/-- What Line answers. -/
def lineV (a : A) : Value := if may a then .tuple #[.string ⟨(line a).toArray⟩, .int .i64 0] else .tuple #[.string ⟨#[]⟩, .int .i64 270]
theorem lineV_yes {a : A} (h : may a) : lineV a = .tuple #[.string ⟨(line a).toArray⟩, .int .i64 0] := if_pos h
theorem lineV_no {a : A} (h : ¬ may a) : lineV a = .tuple #[.string ⟨#[]⟩, .int .i64 270] := if_neg h
/-- The builder in block B holds l, which is no longer than c; below B all is as in w1. -/
structure Lx (w1 : World) (B : Nat) (wr : World) (l : List UInt8) (c : Nat) : Prop where
  bd : Bd wr B l
  below : Below B w1 wr
  len : l.length ≤ c
theorem Lx.fresh (w : World) : Lx w w.heap.size (w.alloc (.cells #[.pointer none, .slice none 0 0] 64)) [] 0 := ⟨Bd.fresh w, (Below.refl _ w).alloc (Nat.le_refl _) _, Nat.le_refl _⟩
theorem Lx.keep {w1 wr wr' : World} {B : Nat} {l : List UInt8} {c : Nat} (h : Lx w1 B wr l c) (hk : Kp (fun _ => False) wr wr') : Lx w1 B wr' l c :=
  ⟨h.bd.keep hk, h.below.trans (hk.toBelow (Nat.le_of_lt h.bd.lt) (fun _ h => h.elim)), h.len⟩
theorem Lx.le {w1 wr : World} {B : Nat} {l : List UInt8} {c c' : Nat} (h : Lx w1 B wr l c) (hc : c ≤ c') : Lx w1 B wr l c' := ⟨h.bd, h.below, Nat.le_trans h.len hc⟩
theorem lx_str {w1 wr : World} {B : Nat} {l : List UInt8} {c : Nat} (h : Lx w1 B wr l c) (s : List UInt8) (g : Nat) (hs : s.length ≤ g) (hg : g ≤ 100000) (hc : c ≤ 900000000) :
    Calls Tryz.prog 35 #[.pointer (some ⟨B, 0, none⟩), .string ⟨s.toArray⟩] wr fun e w' => (∃ x, e = .returned (.tuple #[x, .nilIface])) ∧ Lx w1 B w' (l ++ s) (c + g) := by
  refine (wstr_at h.bd ⟨s.toArray⟩ (by have := h.len; omega) (by rw [sz]; omega)).mono ?_
  rintro e w' ⟨he, h1, h2⟩
  exact ⟨he, h1, h.below.trans h2.below, by have := h.len; rw [List.length_append]; omega⟩
theorem lx_byte {w1 wr : World} {B : Nat} {l : List UInt8} {c : Nat} (h : Lx w1 B wr l c) (n : Int) (b : UInt8) (hn : n = (b.toNat : Int)) (hc : c ≤ 900000000) :
    Calls Tryz.prog 59 #[.pointer (some ⟨B, 0, none⟩), .int .u8 n] wr fun e w' => e = .returned .nilIface ∧ Lx w1 B w' (l ++ [b]) (c + 1) := by
  subst hn
  refine (wbyte_at h.bd b (by have := h.len; omega)).mono ?_
  rintro e w' ⟨he, h1, h2⟩
  exact ⟨he, h1, h.below.trans h2.below, by have := h.len; rw [List.length_append]; simp; omega⟩
theorem lx_end {w1 wr : World} {B : Nat} {l : List UInt8} {c : Nat} (h : Lx w1 B wr l c) :
    Calls Tryz.prog 36 #[.pointer (some ⟨B, 0, none⟩)] wr fun e w' => e = .returned (.string ⟨l.toArray⟩) ∧ Lx w1 B w' l c := by
  refine (bstr_at h.bd).mono ?_
  rintro e w' ⟨he, h1, h2⟩
  exact ⟨he, h1, h.below.trans h2.below, h.len⟩
/-- What lies below the builder. -/
theorem Lx.fa {w1 wr : World} {B : Nat} {l : List UInt8} {c b : Nat} {v0 v1 v2 v3 v4 : Value} (h : Lx w1 B wr l c) (f : Fa w1 b v0 v1 v2 v3 v4) (hb : b < B) : Fa wr b v0 v1 v2 v3 v4 :=
  ⟨bsee h.below f.c0 hb, bsee h.below f.c1 hb, bsee h.below f.c2 hb, bsee h.below f.c3 hb, bsee h.below f.c4 hb⟩
theorem ev_below {w w' : World} (h : Ev w) (hb : Below w.heap.size w w') : Ev w' := h.keep (Kp.of_below hb _)
theorem Lx.bs {w1 wr : World} {B : Nat} {l : List UInt8} {c : Nat} (h : Lx w1 B wr l c) (hB : w1.heap.size = B) {v : Value} {x : List Int} (hx : Bs w1 v x) : Bs wr v x := by
  subst hB
  exact Bs.keep hx (fun b hb _ => h.below.block b hb)
theorem Lx.ev {w1 wr : World} {B : Nat} {l : List UInt8} {c : Nat} (h : Lx w1 B wr l c) (hB : w1.heap.size = B) (hx : Ev w1) : Ev wr := by
  subst hB
  exact ev_below hx h.below
end Go.Proofs.YtkcechpaeilaeaaGreatDoor
