/- Laws that the walks share, joined out of: P25 P27 P28 P26. -/
import Derived.Test.YtkcechpaeilaeaaGreatDoorP19
import Derived.Test.YtkcechpaeilaeaaGreatDoorV3
import Derived.Test.YtkcechpaeilaeaaGreatDoorG2
import Derived.Test.YtkcechpaeilaeaaGreatDoorQ4
import Derived.Test.YtkcechpaeilaeaaGreatDoorL10

/- The text of a script: what it is, and the closure's calls. -/
namespace Go.Proofs.YtkcechpaeilaeaaGreatDoor
open Go.RowKit
set_option linter.unusedVariables false
set_option linter.unusedSimpArgs false
set_option maxRecDepth 100000

theorem pk_le (p : List UInt8) : (pk p).length ≤ 22 * p.length := by
  induction p with
  | nil => simp [pk]
  | cons c p ih =>
    have h := Lib.itoa_length_le (c.toNat : Int) (by omega) (by have := c.toNat_lt; omega)
    have e : pk (c :: p) = (32 :: Lib.itoa (c.toNat : Int)) ++ pk p := by simp [pk]
    rw [e, List.length_append, List.length_cons, List.length_cons]
    omega
theorem nms_le : ∀ i, i < 15 → (nms.getD i []).length ≤ 7 := by decide
theorem line_le {a : A} (h : may a) : (line a).length ≤ 60000 := by
  obtain ⟨h1, h2, h3, h4, h5, h6, h7, _⟩ := h
  have e1 := nms_le a.d.toNat (by omega)
  have e2 := quote_length a.k false
  have e3 := quote_length a.t true
  have e4 := pk_le a.p
  have e5 := Lib.itoa_length_le a.n (by omega) (by omega)
  unfold line fields nm
  simp only [List.length_append]
  have f1 : (if hn a.d then 32 :: Lib.itoa a.n else []).length ≤ 22 := by split <;> simp <;> omega
  have f2 : (if hk a.d then 32 :: quote a.k false else []).length ≤ 6001 := by split <;> simp <;> omega
  have f3 : (if ht a.d then 32 :: quote a.t true else []).length ≤ 6001 := by split <;> simp <;> omega
  omega
theorem pkI_le (ns : List Int) (h : ∀ z ∈ ns, -9223372036854775808 ≤ z ∧ z ≤ 9223372036854775807) : (pkI ns).length ≤ 22 * ns.length := by
  induction ns with
  | nil => simp [pkI]
  | cons c p ih =>
    have h0 := h c (by simp)
    have h1 := Lib.itoa_length_le c h0.1 h0.2
    have e : pkI (c :: p) = (32 :: Lib.itoa c) ++ pkI p := by simp [pkI]
    have := ih (fun z hz => h z (by simp [hz]))
    rw [e, List.length_append, List.length_cons, List.length_cons]
    omega
/-- The lines of a script. -/
def fline (x : Fo) : List UInt8 := [102, 111, 108, 100] ++ pkI [x.f, x.t, x.n] ++ [10]
def sline (l : List UInt8) : List UInt8 := [115, 116, 111, 112, 32] ++ quote l false ++ [10]
def aline (a : A) : List UInt8 := line a ++ [10]
def hd3 (p c k : Int) : List UInt8 := [] ++ [112, 97, 103, 101, 115] ++ pkI [p] ++ [10] ++ [99, 97, 99, 104, 101] ++ pkI [c] ++ [10] ++ [99, 97, 112] ++ pkI [k] ++ [10]
def ptext (s : Sc) : List UInt8 := hd3 s.pages s.cache s.cap ++ s.fl.flatMap fline ++ s.ss.flatMap sline ++ s.ac.flatMap aline
def PrOut (s : Sc) (t : List UInt8) (c : Int) : Prop := (¬ scOk s ∧ t = [] ∧ c = 270) ∨ (scOk s ∧ 65536 < (ptext s).length ∧ t = [] ∧ c = 3) ∨ (scOk s ∧ (ptext s).length ≤ 65536 ∧ t = ptext s ∧ c = 0)
theorem PrOut.same {s : Sc} {t t' : List UInt8} {c c' : Int} (h : PrOut s t c) (h' : PrOut s t' c') : t = t' ∧ c = c' := by
  rcases h with ⟨h1, rfl, rfl⟩ | ⟨h1, h2, rfl, rfl⟩ | ⟨h1, h2, rfl, rfl⟩ <;> rcases h' with ⟨g1, rfl, rfl⟩ | ⟨g1, g2, rfl, rfl⟩ | ⟨g1, g2, rfl, rfl⟩ <;>
    first | exact ⟨rfl, rfl⟩ | exact absurd g1 h1 | exact absurd h1 g1 | omega
def PrR (s : Sc) (w w' : World) (e : Ending) : Prop := (∃ t c, e = .returned (.tuple #[.string ⟨t.toArray⟩, .int .i64 c]) ∧ PrOut s t c) ∧ Kp (fun _ => False) w w'
/-- What is known of a script that may be. -/
structure Bnd (s : Sc) : Prop where
  pg : 8 ≤ s.pages ∧ s.pages ≤ 2048
  ch : 2 ≤ s.cache ∧ s.cache ≤ 64
  cp : 1 ≤ s.cap ∧ s.cap ≤ 12
  nf : s.fl.length ≤ 8
  fl : ∀ (i : Nat) (x : Fo), s.fl[i]? = some x → (1 ≤ x.n ∧ x.n ≤ 256) ∧ (48 ≤ x.f ∧ x.f ≤ 1279) ∧ (48 ≤ x.t ∧ x.t ≤ 1279)
  ns : s.ss.length ≤ 32
  ss : ∀ (i : Nat) (l : List UInt8), s.ss[i]? = some l → l.length ≤ 24
  na : s.ac.length ≤ 400
  ac : ∀ (i : Nat) (a : A), s.ac[i]? = some a → may a
theorem scOk.bnd {s : Sc} (h : scOk s) : Bnd s := by
  obtain ⟨⟨h1, h2, ⟨⟨h31, h32, h33⟩, h34, h35, h36⟩, h4⟩, h5, h6⟩ := h
  refine ⟨h1, h2, h34, h31, fun i x hx => ?_, h35, fun i l hl => ?_, h5, h6⟩
  · exact (h32 i (List.getElem?_eq_some_iff.1 hx).1).bd hx
  · exact (okW_len (h36 i (List.getElem?_eq_some_iff.1 hl).1 l hl).1 h34.2).2
theorem i64_one {z : Int} (h : 0 ≤ z ∧ z ≤ 1000000) : ∀ y ∈ [z], -9223372036854775808 ≤ y ∧ y ≤ 9223372036854775807 := by
  intro y hy; simp only [List.mem_singleton] at hy; subst hy; omega
theorem i64_three {a b c : Int} (ha : 0 ≤ a ∧ a ≤ 1000000) (hb : 0 ≤ b ∧ b ≤ 1000000) (hc : 0 ≤ c ∧ c ≤ 1000000) : ∀ y ∈ [a, b, c], -9223372036854775808 ≤ y ∧ y ≤ 9223372036854775807 := by
  intro y hy
  simp only [List.mem_cons, List.not_mem_nil, or_false] at hy
  rcases hy with rfl | rfl | rfl <;> omega
theorem rowI_new' (w : World) (ns : List Int) : rowI (w.alloc (.cells (ns.map (Value.int .i64)).toArray 3)) w.heap.size ns := _root_.Go.heap_alloc_new w _
/-- The closure's call with one number, which was packed for it. -/
theorem print1_z {w1 w2 : World} {l : List UInt8} {c : Nat} (h : Lx w1 w1.heap.size w2 l c) (hE : Ev w1) (hc : c ≤ 800000000) (s : List UInt8) (hs : s.length ≤ 10) (z : Int) (h0 : 0 ≤ z ∧ z ≤ 1000000) (r : Nat) (hr : r = w2.heap.size) :
    Calls Tryz.prog 65 #[.string ⟨s.toArray⟩, .slice (some ⟨r, 0, none⟩) 1 1, .pointer (some ⟨w1.heap.size, 0, none⟩)] (w2.alloc (.cells #[.int .i64 z] 3)) fun e w' => e = .returned (.tuple #[]) ∧ Lx w1 w1.heap.size w' (l ++ s ++ pkI [z] ++ [10]) (c + 111) := by
  subst hr
  refine (print1_at (h.keep ((Kp.refl _ w2).alloc (.cells #[.int .i64 z] 3))) hE rfl s 10 hs (by decide) hc [z] w2.heap.size (rowI_new' w2 [z]) (Nat.ne_of_gt h.bd.lt) (by simp) (i64_one h0)).mono ?_
  rintro e w' ⟨he, h2⟩
  exact ⟨he, h2.le (by simp)⟩
theorem print1_3 {w1 w2 : World} {l : List UInt8} {c : Nat} (h : Lx w1 w1.heap.size w2 l c) (hE : Ev w1) (hc : c ≤ 800000000) (s : List UInt8) (hs : s.length ≤ 10) (x y z : Int) (hx : 0 ≤ x ∧ x ≤ 1000000) (hy : 0 ≤ y ∧ y ≤ 1000000) (hz : 0 ≤ z ∧ z ≤ 1000000) (r : Nat) (hr : r = w2.heap.size) :
    Calls Tryz.prog 65 #[.string ⟨s.toArray⟩, .slice (some ⟨r, 0, none⟩) 3 3, .pointer (some ⟨w1.heap.size, 0, none⟩)] (w2.alloc (.cells #[.int .i64 x, .int .i64 y, .int .i64 z] 3)) fun e w' => e = .returned (.tuple #[]) ∧ Lx w1 w1.heap.size w' (l ++ s ++ pkI [x, y, z] ++ [10]) (c + 311) := by
  subst hr
  refine (print1_at (h.keep ((Kp.refl _ w2).alloc (.cells #[.int .i64 x, .int .i64 y, .int .i64 z] 3))) hE rfl s 10 hs (by decide) hc [x, y, z] w2.heap.size (rowI_new' w2 [x, y, z]) (Nat.ne_of_gt h.bd.lt) (by simp) (i64_three hx hy hz)).mono ?_
  rintro e w' ⟨he, h2⟩
  exact ⟨he, h2.le (by simp)⟩
theorem flat_take {α : Type} {f : α → List UInt8} {l : List α} {k : Nat} {x : α} (h : l[k]? = some x) : (l.take (k + 1)).flatMap f = (l.take k).flatMap f ++ f x := by
  obtain ⟨h1, rfl⟩ := List.getElem?_eq_some_iff.1 h
  rw [List.take_succ_eq_append_getElem h1, List.flatMap_append]
  simp
end Go.Proofs.YtkcechpaeilaeaaGreatDoor

/- The lines of a script's head, as the document has them. -/
namespace Go.Proofs.YtkcechpaeilaeaaGreatDoor
open Go.RowKit
set_option linter.unusedVariables false
set_option linter.unusedSimpArgs false
set_option maxRecDepth 100000

def ftl (x : Fo) : List UInt8 := [102, 111, 108, 100] ++ pkI [x.f, x.t, x.n]
def stl (l : List UInt8) : List UInt8 := [115, 116, 111, 112, 32] ++ quote l false
def tl3 (p c k : Int) : List (List UInt8) := [[112, 97, 103, 101, 115] ++ pkI [p], [99, 97, 99, 104, 101] ++ pkI [c], [99, 97, 112] ++ pkI [k]]
def tlines (s : Sc) : List (List UInt8) := tl3 s.pages s.cache s.cap ++ s.fl.map ftl ++ s.ss.map stl
theorem ptext_lines (s : Sc) : ptext s = (tlines s ++ s.ac.map line).flatMap (fun l => l ++ [10]) := by
  simp only [ptext, tlines, tl3, hd3, List.flatMap_append, List.flatMap_cons, List.flatMap_nil, List.flatMap_map, List.nil_append, List.append_nil, List.append_assoc, List.cons_append]
  congr
theorem map_take {α : Type} {f : α → List UInt8} {l : List α} {k : Nat} {x : α} (h : l[k]? = some x) : (l.take (k + 1)).map f = (l.take k).map f ++ [f x] := by
  obtain ⟨h1, rfl⟩ := List.getElem?_eq_some_iff.1 h
  rw [List.take_succ_eq_append_getElem h1, List.map_append]
  rfl
theorem pkI_one (z : Int) : pkI [z] = 32 :: Lib.itoa z := by simp [pkI]
theorem pkI_three (x y z : Int) : pkI [x, y, z] = 32 :: Lib.itoa x ++ [32] ++ Lib.itoa y ++ [32] ++ Lib.itoa z := by simp [pkI]
theorem zero9' (w : World) : (zeroValue 9).run Tryz.prog w = .ok (.string ⟨#[]⟩) w := by kernel_rfl
theorem info9i : (Tryz.prog.info? 9).map (·.size) = some 1 := by kernel_rfl
section
variable {ops : Array Oper} {rest : List Oper} {o : Oper} {a : Act} {Q : Exit → Act → World → Prop} {K : Act → World → Prop}
theorem ow_slit1 {w : World} (x : Operand) (ho : o.op = .buildSlice 48 1 #[(0, x)]) (l : List UInt8) (hx : a.eval x = .string ⟨l.toArray⟩)
    (h : K (a.put o.dst (.slice (some ⟨w.heap.size, 0, none⟩) 1 1)) (w.alloc (.cells #[.string ⟨l.toArray⟩] 9))) : o.wp Tryz.prog a w K Q := by
  refine ow_run ?_ h
  unfold execOp
  simp [ho, hx, Instr.buildSlice, Sem.run_bind, run_underlying Tryz.underlying48, sizeOf_run w info9i, zero9', Instr.fill, Value.cells, newRow, newObj, Sem.run, map_range1]
theorem ow_slit3 {w : World} (x y z : Operand) (ho : o.op = .buildSlice 48 3 #[(0, x), (1, y), (2, z)]) (l m n : List UInt8) (hx : a.eval x = .string ⟨l.toArray⟩) (hy : a.eval y = .string ⟨m.toArray⟩) (hz : a.eval z = .string ⟨n.toArray⟩)
    (h : K (a.put o.dst (.slice (some ⟨w.heap.size, 0, none⟩) 3 3)) (w.alloc (.cells #[.string ⟨l.toArray⟩, .string ⟨m.toArray⟩, .string ⟨n.toArray⟩] 9))) : o.wp Tryz.prog a w K Q := by
  refine ow_run ?_ h
  unfold execOp
  simp [ho, hx, hy, hz, Instr.buildSlice, Sem.run_bind, run_underlying Tryz.underlying48, sizeOf_run w info9i, zero9', Instr.fill, Value.cells, newRow, newObj, Sem.run, map_range3]
theorem ow_tobytes {w : World} (x : Operand) (ho : o.op = .convert 9 22 x) (l : List UInt8) (hx : a.eval x = .string ⟨l.toArray⟩)
    (h : ∀ v w', Bs w' v (ints l) → Kp (fun _ => False) w w' → K (a.put o.dst v) w') : o.wp Tryz.prog a w K Q := by
  have e1 := run_bytes_of_string (P := Tryz.prog) w 9 22 5 ⟨l.toArray⟩ Tryz.underlying9 Tryz.underlying22 Tryz.underlying5
  rw [sz] at e1
  refine ow_run (v := .slice (some ⟨w.heap.size, 0, none⟩) l.length (grownCap w l.length 0 5)) (w' := w.drew.alloc (.cells (bytesRow ⟨l.toArray⟩ (grownCap w l.length 0 5)) 5 ((bytesRow ⟨l.toArray⟩ (grownCap w l.length 0 5)).size, (bytesRow ⟨l.toArray⟩ (grownCap w l.length 0 5)).size + 1))) ?_ (h _ _ (tobytes_Bs w 5 l _ (grownCap_ge _ _ _ _) _) (((Kp.refl _ w).drew).alloc _))
  unfold execOp
  simp only [ho, hx, Sem.run_bind, e1]
  rfl
end
theorem Or.new3 (w : World) (x y z : List UInt8) (b : Nat) (hb : b ≤ w.heap.size) : Or b 9 1 (w.alloc (.cells #[.string ⟨x.toArray⟩, .string ⟨y.toArray⟩, .string ⟨z.toArray⟩] 9)) (.slice (some ⟨w.heap.size, 0, none⟩) 3 3) 3 (wcl [x, y, z]) :=
  ⟨⟨by simp [wcl], .inr ⟨w.heap.size, 3, _, rfl, Nat.zero_le _, _root_.Go.heap_alloc_new w _, Nat.le_refl _, by decide, rfl, rfl⟩⟩, fun k hk => by cases hk; exact hb⟩
theorem Or.mono {b b' : Nat} {e : TypeId} {size n : Nat} {w : World} {v : Value} {xs : List Value} (h : Or b' e size w v n xs) (hb : b ≤ b') : Or b e size w v n xs := ⟨h.own, fun k hk => Nat.le_trans hb (h.new k hk)⟩
/-- The lines that are there, in a row of one's own. -/
structure Tp (b : Nat) (w1 wr : World) (v : Value) (l : List (List UInt8)) : Prop where
  row : Or b 9 1 wr v l.length (wcl l)
  kp : Kp (fun _ => False) w1 wr
theorem Tp.eq {b : Nat} {w1 wr : World} {v : Value} {l l' : List (List UInt8)} (h : Tp b w1 wr v l) (e : l = l') : Tp b w1 wr v l' := e ▸ h
theorem num_b {z : Int} (h : 0 ≤ z ∧ z ≤ 1000000) : Hd (∀ u : World, Calls Tryz.prog 48 #[.int .i64 z] u fun e w' => e = .returned (.string ⟨(Lib.itoa z).toArray⟩) ∧ Kp (fun _ => False) u w') := ⟨fun u => number_z h.1 (by omega) u⟩
theorem itoa_b {z : Int} (h : 0 ≤ z ∧ z ≤ 1000000) : (Lib.itoa z).length ≤ 21 := Lib.itoa_length_le z (by omega) (by omega)
set_option maxHeartbeats 8000000 in
theorem rtop_at {w : World} {AF AS AA : Option Addr} {cF cS cA : Nat} (s : Sc) (hb : Bnd { s with ac := [] }) (hR : ScR w s AF cF AS cS AA cA) :
    Calls Tryz.prog 66 #[.agg #[.int .i64 s.pages, .int .i64 s.cache, .slice AF s.fl.length cF, .slice AS s.ss.length cS, .int .i64 s.cap, .slice AA s.ac.length cA]] w fun e w' => (∃ v, e = .returned v ∧ Or w.heap.size 9 1 w' v (tlines s).length (wcl (tlines s))) ∧ Kp (fun _ => False) w w' := by
  obtain ⟨pages, cache, fl, ss, cap, ac⟩ := s
  simp only at hb ⊢
  have HF := hR.fl
  have HS := hR.ss
  simp only at HF HS
  have hfl := hb.fl
  have hss := hb.ss
  have hnf8 := hb.nf
  have hns8 := hb.ns
  simp only at hfl hss hnf8 hns8
  have b1 : 0 ≤ pages ∧ pages ≤ 1000000 := by have := hb.pg; simp only at this; omega
  have b2 : 0 ≤ cache ∧ cache ≤ 1000000 := by have := hb.ch; simp only at this; omega
  have b3 : 0 ≤ cap ∧ cap ≤ 1000000 := by have := hb.cp; simp only at this; omega
  have ntl : Hd (tlines ⟨pages, cache, fl, ss, cap, ac⟩ = tl3 pages cache cap ++ fl.map ftl ++ ss.map stl) := ⟨rfl⟩
  obtain ⟨tls, htl⟩ : ∃ t, tlines ⟨pages, cache, fl, ss, cap, ac⟩ = t := ⟨_, rfl⟩
  rw [htl] at ntl ⊢
  clear htl
  obtain ⟨nf, hnf⟩ : ∃ n, fl.length = n := ⟨_, rfl⟩
  obtain ⟨ns, hns⟩ : ∃ n, ss.length = n := ⟨_, rfl⟩
  obtain ⟨na, hna⟩ : ∃ n, ac.length = n := ⟨_, rfl⟩
  obtain ⟨w1, hw1⟩ : ∃ w1, w.alloc (.cells #[.int .i64 pages, .int .i64 cache, .slice AF nf cF, .slice AS ns cS, .int .i64 cap, .slice AA na cA] 53) = w1 := ⟨_, rfl⟩
  have k01 : Hd (Kp (fun _ => False) w w1) := ⟨by rw [← hw1]; exact (Kp.refl _ w).alloc _⟩
  have hbx0 : ∀ w', Kp (fun _ => False) w1 w' → (w'.cell? ⟨w.heap.size, 0, none⟩ = some (.int .i64 pages) ∧ w'.cell? ⟨w.heap.size, 1, none⟩ = some (.int .i64 cache) ∧ w'.cell? ⟨w.heap.size, 2, none⟩ = some (.slice AF nf cF) ∧ w'.cell? ⟨w.heap.size, 3, none⟩ = some (.slice AS ns cS) ∧ w'.cell? ⟨w.heap.size, 4, none⟩ = some (.int .i64 cap) ∧ w'.cell? ⟨w.heap.size, 5, none⟩ = some (.slice AA na cA)) := fun w' hk => by
    rw [← hw1] at hk
    exact (box6 _ _ _ _ _ _ _ _ _ hk).1
  have HF := Hd.mk (HF.keep k01.out)
  have HS := Hd.mk (HS.keep k01.out)
  have hsz1 : Hd (w.heap.size ≤ w1.heap.size) := ⟨k01.out.size⟩
  rw [hnf] at HF hnf8
  rw [hns] at HS hns8
  rw [hnf, hns, hna]
  have hnf := Hd.mk hnf
  have hns := Hd.mk hns
  have hfl := Hd.mk hfl
  have hss := Hd.mk hss
  have c1 := num_b b1
  have c2 := num_b b2
  have c3 := num_b b3
  have q1 := itoa_b b1
  have q2 := itoa_b b2
  have q3 := itoa_b b3
  obtain ⟨x1, hx1⟩ : ∃ x, Hd ([112, 97, 103, 101, 115] ++ pkI [pages] = x) := ⟨_, ⟨rfl⟩⟩
  obtain ⟨x2, hx2⟩ : ∃ x, Hd ([99, 97, 99, 104, 101] ++ pkI [cache] = x) := ⟨_, ⟨rfl⟩⟩
  obtain ⟨x3, hx3⟩ : ∃ x, Hd ([99, 97, 112] ++ pkI [cap] = x) := ⟨_, ⟨rfl⟩⟩
  have ht3 : Hd (tl3 pages cache cap = [x1, x2, x3]) := ⟨by rw [← hx1.out, ← hx2.out, ← hx3.out]; rfl⟩
  have p1 := pkI_one pages
  have p2 := pkI_one cache
  have p3 := pkI_one cap
  obtain ⟨i1, hi1⟩ : ∃ x, Lib.itoa pages = x := ⟨_, rfl⟩
  obtain ⟨i2, hi2⟩ : ∃ x, Lib.itoa cache = x := ⟨_, rfl⟩
  obtain ⟨i3, hi3⟩ : ∃ x, Lib.itoa cap = x := ⟨_, rfl⟩
  rw [hi1] at c1 q1 p1
  rw [hi2] at c2 q2 p2
  rw [hi3] at c3 q3 p3
  have y1 : Hd (x1 = [112, 97, 103, 101, 115, 32] ++ i1) := ⟨by rw [← hx1.out, p1]; rfl⟩
  have y2 : Hd (x2 = [99, 97, 99, 104, 101, 32] ++ i2) := ⟨by rw [← hx2.out, p2]; rfl⟩
  have y3 : Hd (x3 = [99, 97, 112, 32] ++ i3) := ⟨by rw [← hx3.out, p3]; rfl⟩
  have l1 : Hd (([112, 97, 103, 101, 115, 32] : List UInt8).length + i1.length ≤ 9000000000000000000) := ⟨by simp only [List.length_cons, List.length_nil]; omega⟩
  have l2 : Hd (([99, 97, 99, 104, 101, 32] : List UInt8).length + i2.length ≤ 9000000000000000000) := ⟨by simp only [List.length_cons, List.length_nil]; omega⟩
  have l3 : Hd (([99, 97, 112, 32] : List UInt8).length + i3.length ≤ 9000000000000000000) := ⟨by simp only [List.length_cons, List.length_nil]; omega⟩
  clear hx1 hx2 hx3 p1 p2 p3 q1 q2 q3 hi1 hi2 hi3 hR hb hna b1 b2 b3
  have hwq := Hd.mk hw1
  clear hw1
  go_enter Tryz.func66, Tryz.ntmps66
  go_wp2_with fail
  rw [hwq.out]
  obtain ⟨B, hBq⟩ : ∃ B, Hd (w.heap.size = B) := ⟨_, ⟨rfl⟩⟩
  rw [hBq.out] at hbx0 ⊢
  have hbx := Hd.mk hbx0
  clear hbx0
  have hS : Hd ((fun W : World => Kp (fun _ => False) w1 W) w1.drew) := ⟨(Kp.refl _ _).drew⟩
  refine rn_begin (fun W : World => Kp (fun _ => False) w1 W) (List.range 15) (by kernel_rfl) ?_
  refine rn_take (i := 0) (dst := some 7) (v := .pointer (some ⟨B, 0, none⟩)) rfl (by kernel_rfl) (fun _ _ _ h => h) rfl rfl (fun W hW => er_field W 53 0 _ rfl B 0 0 0 0 (by first | rfl | omega) Tryz.underlying53 rfl (by kernel_rfl) rfl rfl) hS.out ?_
  simp only [Act.put, spA, spB, spC]
  refine rn_take (i := 1) (dst := some 8) (v := .int .i64 (pages)) rfl (by kernel_rfl) (fun _ _ _ h => h) rfl rfl (fun W hW => ex_load W 3 _ _ rfl ⟨B, 0, none⟩ Tryz.underlying3 rfl rfl ((hbx.out W hW).1)) hS.out ?_
  simp only [Act.put, spA, spB, spC]
  refine rn_take (i := 4) (dst := some 11) (v := .pointer (some ⟨B, 1, none⟩)) rfl (by kernel_rfl) (fun _ _ _ h => h) rfl rfl (fun W hW => er_field W 53 1 _ rfl B 0 0 1 1 (by first | rfl | omega) Tryz.underlying53 rfl (by kernel_rfl) rfl rfl) hS.out ?_
  simp only [Act.put, spA, spB, spC]
  refine rn_take (i := 5) (dst := some 12) (v := .int .i64 (cache)) rfl (by kernel_rfl) (fun _ _ _ h => h) rfl rfl (fun W hW => ex_load W 3 _ _ rfl ⟨B, 1, none⟩ Tryz.underlying3 rfl rfl ((hbx.out W hW).2.1)) hS.out ?_
  simp only [Act.put, spA, spB, spC]
  refine rn_take (i := 8) (dst := some 15) (v := .pointer (some ⟨B, 2, none⟩)) rfl (by kernel_rfl) (fun _ _ _ h => h) rfl rfl (fun W hW => er_field W 53 2 _ rfl B 0 2 2 2 (by first | rfl | omega) Tryz.underlying53 rfl (by kernel_rfl) rfl rfl) hS.out ?_
  simp only [Act.put, spA, spB, spC]
  refine rn_take (i := 9) (dst := some 16) (v := .pointer (some ⟨B, 4, none⟩)) rfl (by kernel_rfl) (fun _ _ _ h => h) rfl rfl (fun W hW => er_field W 50 2 _ rfl B 2 0 2 4 (by first | rfl | omega) Tryz.underlying50 rfl (by kernel_rfl) rfl rfl) hS.out ?_
  simp only [Act.put, spA, spB, spC]
  refine rn_take (i := 10) (dst := some 17) (v := .int .i64 (cap)) rfl (by kernel_rfl) (fun _ _ _ h => h) rfl rfl (fun W hW => ex_load W 3 _ _ rfl ⟨B, 4, none⟩ Tryz.underlying3 rfl rfl ((hbx.out W hW).2.2.2.2.1)) hS.out ?_
  simp only [Act.put, spA, spB, spC]
  generalize w1.drew = u0 at *
  refine rn_one (i := 2) (dst := some 9) rfl (by kernel_rfl) rfl rfl (fun K hK => ?_)
  refine ow_call 48 _ _ rfl Tryz.func48 (by kernel_rfl) (by kernel_rfl) [.int .i64 pages] rfl (c1.out _) ?_
  rintro e u1 ⟨rfl, k1⟩
  have hS1 : Hd ((fun W : World => Kp (fun _ => False) w1 W) u1) := ⟨hS.out.andThen k1 (fun _ _ h => h)⟩
  refine ⟨_, rfl, hK _ _ (fun _ => hS1.out) ?_⟩
  clear hK K hS k1
  have hS := hS1
  clear hS1
  simp only [Act.put, spA, spB, spC]
  refine rn_take (i := 3) (dst := some 10) (v := .string ⟨(x1).toArray⟩) rfl (by kernel_rfl) (fun _ _ _ h => h) rfl rfl (fun W hW => ex_scatv W 9 9 _ _ rfl [112, 97, 103, 101, 115, 32] i1 x1 l1.out y1.out rfl rfl) hS.out ?_
  simp only [Act.put, spA, spB, spC]
  refine rn_one (i := 6) (dst := some 13) rfl (by kernel_rfl) rfl rfl (fun K hK => ?_)
  refine ow_call 48 _ _ rfl Tryz.func48 (by kernel_rfl) (by kernel_rfl) [.int .i64 cache] rfl (c2.out _) ?_
  rintro e u2 ⟨rfl, k1⟩
  have hS1 : Hd ((fun W : World => Kp (fun _ => False) w1 W) u2) := ⟨hS.out.andThen k1 (fun _ _ h => h)⟩
  refine ⟨_, rfl, hK _ _ (fun _ => hS1.out) ?_⟩
  clear hK K hS k1
  have hS := hS1
  clear hS1
  simp only [Act.put, spA, spB, spC]
  refine rn_take (i := 7) (dst := some 14) (v := .string ⟨(x2).toArray⟩) rfl (by kernel_rfl) (fun _ _ _ h => h) rfl rfl (fun W hW => ex_scatv W 9 9 _ _ rfl [99, 97, 99, 104, 101, 32] i2 x2 l2.out y2.out rfl rfl) hS.out ?_
  simp only [Act.put, spA, spB, spC]
  refine rn_one (i := 11) (dst := some 18) rfl (by kernel_rfl) rfl rfl (fun K hK => ?_)
  refine ow_call 48 _ _ rfl Tryz.func48 (by kernel_rfl) (by kernel_rfl) [.int .i64 cap] rfl (c3.out _) ?_
  rintro e u3 ⟨rfl, k1⟩
  have hS1 : Hd ((fun W : World => Kp (fun _ => False) w1 W) u3) := ⟨hS.out.andThen k1 (fun _ _ h => h)⟩
  refine ⟨_, rfl, hK _ _ (fun _ => hS1.out) ?_⟩
  clear hK K hS k1
  have hS := hS1
  clear hS1
  simp only [Act.put, spA, spB, spC]
  refine rn_take (i := 12) (dst := some 19) (v := .string ⟨(x3).toArray⟩) rfl (by kernel_rfl) (fun _ _ _ h => h) rfl rfl (fun W hW => ex_scatv W 9 9 _ _ rfl [99, 97, 112, 32] i3 x3 l3.out y3.out rfl rfl) hS.out ?_
  simp only [Act.put, spA, spB, spC]
  refine rn_one (i := 13) (dst := some 20) rfl (by kernel_rfl) rfl rfl (fun K hK => ?_)
  refine ow_slit3 _ _ _ rfl x1 x2 x3 rfl rfl rfl ?_
  have hT0 : Hd (Tp w1.heap.size w1 (u3.alloc (.cells #[.string ⟨x1.toArray⟩, .string ⟨x2.toArray⟩, .string ⟨x3.toArray⟩] 9)) (.slice (some ⟨u3.heap.size, 0, none⟩) 3 3) (tl3 pages cache cap ++ (fl.take 0).map ftl)) := ⟨⟨by rw [ht3.out]; exact Or.new3 u3 x1 x2 x3 _ hS.out.size, hS.out.alloc _⟩⟩
  have hS1 : Hd ((fun W : World => Kp (fun _ => False) w1 W) (u3.alloc (.cells #[.string ⟨x1.toArray⟩, .string ⟨x2.toArray⟩, .string ⟨x3.toArray⟩] 9))) := ⟨hS.out.alloc _⟩
  refine hK _ _ (fun _ => hS1.out) ?_
  clear hK K hS y1 y2 y3 l1 l2 l3 c1 c2 c3
  have hS := hS1
  clear hS1
  simp only [Act.put, spA, spB, spC]
  refine rn_take (i := 14) (dst := some 3) (v := .slice (some ⟨u3.heap.size, 0, none⟩) 3 3) rfl (by kernel_rfl) (fun _ _ _ h => h) rfl rfl (fun W hW => ex_assign W _ _ rfl rfl) hS.out ?_; simp only [Act.put, spA, spB, spC]
  refine rn_done (by kernel_rfl) ?_ _
  clear hS
  go_wp2_with fail
  go_loopw [4, 3] (fun v4 v3 wr => ∃ k : Nat, v4 = .int .i64 k ∧ k ≤ nf ∧ Hd (Tp w1.heap.size w1 wr v3 (tl3 pages cache cap ++ (fl.take k).map ftl))) (fun v4 _ _ => nf - (intOf v4).toNat)
  case atStart => exact ⟨0, rfl, Nat.zero_le _, hT0⟩
  case round =>
    clear hT0
    obtain ⟨k, rfl, hk, HT⟩ := hrel
    obtain ⟨d0, d1, d2, d3, d4, d5⟩ := hbx.out wr HT.out.kp
    by_cases h1 : k < nf
    · have hltI : (k : Int) < (nf : Int) := by omega
      have hkb : (k : Int) + 1 ≤ 1000001 := by omega
      obtain ⟨x, hx⟩ : ∃ x, fl[k]? = some x := ⟨_, List.getElem?_eq_getElem (by rw [hnf.out]; exact h1)⟩
      obtain ⟨g, o, rfl, hr⟩ := (HF.out.keep HT.out.kp).row hx
      have hfb := hfl.out k x hx
      have hmt := Hd.mk (map_take (f := ftl) hx)
      obtain ⟨s5, hs5⟩ : ∃ l, Hd (ftl x = l) := ⟨_, ⟨rfl⟩⟩
      obtain ⟨f, t, m⟩ := x
      simp only at hr hfb
      have hr := Hd.mk hr
      clear hx
      have z1 : Hd (IntKind.i64.wrap f = f) := ⟨w64 (by omega)⟩
      have z2 : Hd (IntKind.i64.wrap t = t) := ⟨w64 (by omega)⟩
      have b1 : 0 ≤ f ∧ f ≤ 1000000 := by omega
      have b2 : 0 ≤ t ∧ t ≤ 1000000 := by omega
      have b3 : 0 ≤ m ∧ m ≤ 1000000 := by omega
      have c1 := num_b b1
      have c2 := num_b b2
      have c3 := num_b b3
      have q1 := itoa_b b1
      have q2 := itoa_b b2
      have q3 := itoa_b b3
      have p3 := pkI_three f t m
      have e5 : ftl ⟨f, t, m⟩ = [102, 111, 108, 100] ++ pkI [f, t, m] := rfl
      obtain ⟨i1, hi1⟩ : ∃ x, Lib.itoa f = x := ⟨_, rfl⟩
      obtain ⟨i2, hi2⟩ : ∃ x, Lib.itoa t = x := ⟨_, rfl⟩
      obtain ⟨i3, hi3⟩ : ∃ x, Lib.itoa m = x := ⟨_, rfl⟩
      rw [hi1] at c1 q1 p3
      rw [hi2] at c2 q2 p3
      rw [hi3] at c3 q3 p3
      obtain ⟨s1, y1⟩ : ∃ l, Hd (l = [102, 111, 108, 100, 32] ++ i1) := ⟨_, ⟨rfl⟩⟩
      obtain ⟨s2, y2⟩ : ∃ l, Hd (l = s1 ++ [32]) := ⟨_, ⟨rfl⟩⟩
      obtain ⟨s3, y3⟩ : ∃ l, Hd (l = s2 ++ i2) := ⟨_, ⟨rfl⟩⟩
      obtain ⟨s4, y4⟩ : ∃ l, Hd (l = s3 ++ [32]) := ⟨_, ⟨rfl⟩⟩
      have y5 : Hd (s5 = s4 ++ i3) := ⟨by rw [← hs5.out, e5, p3, y4.out, y3.out, y2.out, y1.out]; simp⟩
      have m1 : s1.length ≤ 30 := by rw [y1.out]; simp only [List.length_append, List.length_cons, List.length_nil]; omega
      have m2 : s2.length ≤ 31 := by rw [y2.out]; simp only [List.length_append, List.length_cons, List.length_nil]; omega
      have m3 : s3.length ≤ 60 := by rw [y3.out]; simp only [List.length_append]; omega
      have m4 : s4.length ≤ 61 := by rw [y4.out]; simp only [List.length_append, List.length_cons, List.length_nil]; omega
      have l1 : Hd (([102, 111, 108, 100, 32] : List UInt8).length + i1.length ≤ 9000000000000000000) := ⟨by simp only [List.length_cons, List.length_nil]; omega⟩
      have l2 : Hd (s1.length + ([32] : List UInt8).length ≤ 9000000000000000000) := ⟨by simp only [List.length_cons, List.length_nil]; omega⟩
      have l3 : Hd (s2.length + i2.length ≤ 9000000000000000000) := ⟨by omega⟩
      have l4 : Hd (s3.length + ([32] : List UInt8).length ≤ 9000000000000000000) := ⟨by simp only [List.length_cons, List.length_nil]; omega⟩
      have l5 : Hd (s4.length + i3.length ≤ 9000000000000000000) := ⟨by omega⟩
      clear m1 m2 m3 m4 q1 q2 q3 p3 e5 hi1 hi2 hi3 b1 b2 b3 hfb
      obtain ⟨w4, hw4⟩ : ∃ w4, wr.alloc (.cells #[.int .i32 f, .int .i32 t, .int .i64 m] 100) = w4 := ⟨_, rfl⟩
      have k4 : Kp (fun _ => False) wr w4 := by rw [← hw4]; exact (Kp.refl _ wr).alloc _
      have dx0 : ∀ W, Kp (fun _ => False) w4 W → W.cell? ⟨wr.heap.size, 0, none⟩ = some (.int .i32 f) ∧ W.cell? ⟨wr.heap.size, 1, none⟩ = some (.int .i32 t) ∧ W.cell? ⟨wr.heap.size, 2, none⟩ = some (.int .i64 m) := fun W hW => by
        rw [← hw4] at hW
        exact box3 _ _ _ _ _ _ hW
      obtain ⟨C, hC⟩ : ∃ C, Hd (wr.heap.size = C) := ⟨_, ⟨rfl⟩⟩
      have hw4 := Hd.mk hw4
      have KT := Hd.mk (HT.out.kp.andThen k4 (fun _ _ h => h))
      have RT := Hd.mk (HT.out.row.keep k4)
      clear k4
      rw [hC.out] at dx0
      have dx := Hd.mk dx0
      clear dx0
      go_wp2_with (first | (with_reducible refine wl_load_mid rfl 100 (.tmp 33) rfl g (o + k * 3) rfl [.int .i32 f, .int .i32 t, .int .i64 m] hr.out Tryz.underlying100 rfl (by kernel_rfl) ?_) | (with_reducible refine wl_alloc rfl 100 rfl [.int .i32 0, .int .i32 0, .int .i64 0] (zero100 _) ?_) | ((with_reducible refine wl_store_new rfl 100 (.tmp 5) (.tmp 34) rfl [.int .i32 0, .int .i32 0, .int .i64 0] [.int .i32 f, .int .i32 t, .int .i64 m] rfl rfl (by kernel_rfl) rfl (by simp [Value.oneCell']) ?_)))
      rw [show wr.alloc (.cells ([.int .i32 f, .int .i32 t, .int .i64 m] : List Value).toArray 100) = w4 from hw4.out, hC.out]
      have hS : Hd ((fun W : World => Kp (fun _ => False) w4 W) w4.drew) := ⟨(Kp.refl _ _).drew⟩
      clear d0 d1 d2 d3 d4 d5
      refine rn_begin (fun W : World => Kp (fun _ => False) w4 W) (List.range 18) (by kernel_rfl) ?_
      refine rn_takeT [18, 19] (i := 0) (dst := some 35) (v := u3) rfl (by kernel_rfl) (fun _ _ _ h => h) rfl rfl (fun W hW => ex_move W _ _ rfl rfl) hS.out ?_
      simp only [Act.put, spA, spB, spC]
      refine rn_takeT [2, 3, 4, 5, 6, 10, 11, 12, 15, 16, 17, 18, 19] (i := 1) (dst := some 36) (v := .pointer (some ⟨C, 0, none⟩)) rfl (by kernel_rfl) (fun _ _ _ h => h) rfl rfl (fun W hW => er_field W 100 0 _ rfl C 0 0 0 0 (by first | rfl | omega) Tryz.underlying100 rfl (by kernel_rfl) rfl rfl) hS.out ?_
      simp only [Act.put, spA, spB, spC]
      refine rn_takeT [3, 4, 5, 6, 10, 11, 12, 15, 16, 17, 18, 19] (i := 2) (dst := some 37) (v := .int .i32 f) rfl (by kernel_rfl) (fun _ _ _ h => h) rfl rfl (fun W hW => ex_load W 21 _ _ rfl ⟨C, 0, none⟩ Tryz.underlying21 rfl rfl ((dx.out W hW).1)) hS.out ?_
      simp only [Act.put, spA, spB, spC]
      refine rn_takeT [4, 5, 6, 10, 11, 12, 15, 16, 17, 18, 19] (i := 3) (dst := some 38) (v := .int .i64 (f)) rfl (by kernel_rfl) (fun _ _ _ h => h) rfl rfl (fun W hW => ex_convz W 21 3 _ rfl (by kernel_rfl) .i64 Tryz.underlying3 .i32 f f rfl z1.out) hS.out ?_
      simp only [Act.put, spA, spB, spC]
      refine rn_takeT [8, 9, 10, 11, 12, 15, 16, 17, 18, 19] (i := 7) (dst := some 42) (v := .pointer (some ⟨C, 1, none⟩)) rfl (by kernel_rfl) (fun _ _ _ h => h) rfl rfl (fun W hW => er_field W 100 1 _ rfl C 0 0 1 1 (by first | rfl | omega) Tryz.underlying100 rfl (by kernel_rfl) rfl rfl) hS.out ?_
      simp only [Act.put, spA, spB, spC]
      refine rn_takeT [9, 10, 11, 12, 15, 16, 17, 18, 19] (i := 8) (dst := some 43) (v := .int .i32 t) rfl (by kernel_rfl) (fun _ _ _ h => h) rfl rfl (fun W hW => ex_load W 21 _ _ rfl ⟨C, 1, none⟩ Tryz.underlying21 rfl rfl ((dx.out W hW).2.1)) hS.out ?_
      simp only [Act.put, spA, spB, spC]
      refine rn_takeT [10, 11, 12, 15, 16, 17, 18, 19] (i := 9) (dst := some 44) (v := .int .i64 (t)) rfl (by kernel_rfl) (fun _ _ _ h => h) rfl rfl (fun W hW => ex_convz W 21 3 _ rfl (by kernel_rfl) .i64 Tryz.underlying3 .i32 t t rfl z2.out) hS.out ?_
      simp only [Act.put, spA, spB, spC]
      refine rn_takeT [14, 15, 16, 17, 18, 19] (i := 13) (dst := some 48) (v := .pointer (some ⟨C, 2, none⟩)) rfl (by kernel_rfl) (fun _ _ _ h => h) rfl rfl (fun W hW => er_field W 100 2 _ rfl C 0 0 2 2 (by first | rfl | omega) Tryz.underlying100 rfl (by kernel_rfl) rfl rfl) hS.out ?_
      simp only [Act.put, spA, spB, spC]
      refine rn_takeT [15, 16, 17, 18, 19] (i := 14) (dst := some 49) (v := .int .i64 (m)) rfl (by kernel_rfl) (fun _ _ _ h => h) rfl rfl (fun W hW => ex_load W 3 _ _ rfl ⟨C, 2, none⟩ Tryz.underlying3 rfl rfl ((dx.out W hW).2.2)) hS.out ?_
      simp only [Act.put, spA, spB, spC]
      generalize w4.drew = u0 at *
      refine rn_one (i := 4) (dst := some 39) rfl (by kernel_rfl) rfl rfl (fun K hK => ?_)
      refine ow_call 48 _ _ rfl Tryz.func48 (by kernel_rfl) (by kernel_rfl) [.int .i64 f] rfl (c1.out _) ?_
      rintro e u1 ⟨rfl, k1⟩
      have hS1 : Hd ((fun W : World => Kp (fun _ => False) w4 W) u1) := ⟨hS.out.andThen k1 (fun _ _ h => h)⟩
      refine ⟨_, rfl, hK _ _ (fun _ => hS1.out) ?_⟩
      clear hK K hS k1
      have hS := hS1
      clear hS1
      simp only [Act.put, spA, spB, spC]
      refine rn_takeT [6, 11, 12, 16, 17, 18, 19] (i := 5) (dst := some 40) (v := .string ⟨(s1).toArray⟩) rfl (by kernel_rfl) (fun _ _ _ h => h) rfl rfl (fun W hW => ex_scatv W 9 9 _ _ rfl [102, 111, 108, 100, 32] i1 s1 l1.out y1.out rfl rfl) hS.out ?_
      simp only [Act.put, spA, spB, spC]
      refine rn_takeT [11, 12, 16, 17, 18, 19] (i := 6) (dst := some 41) (v := .string ⟨(s2).toArray⟩) rfl (by kernel_rfl) (fun _ _ _ h => h) rfl rfl (fun W hW => ex_scatv W 9 9 _ _ rfl s1 [32] s2 l2.out y2.out rfl rfl) hS.out ?_
      simp only [Act.put, spA, spB, spC]
      refine rn_one (i := 10) (dst := some 45) rfl (by kernel_rfl) rfl rfl (fun K hK => ?_)
      refine ow_call 48 _ _ rfl Tryz.func48 (by kernel_rfl) (by kernel_rfl) [.int .i64 t] rfl (c2.out _) ?_
      rintro e u2 ⟨rfl, k1⟩
      have hS1 : Hd ((fun W : World => Kp (fun _ => False) w4 W) u2) := ⟨hS.out.andThen k1 (fun _ _ h => h)⟩
      refine ⟨_, rfl, hK _ _ (fun _ => hS1.out) ?_⟩
      clear hK K hS k1
      have hS := hS1
      clear hS1
      simp only [Act.put, spA, spB, spC]
      refine rn_takeT [12, 16, 17, 18, 19] (i := 11) (dst := some 46) (v := .string ⟨(s3).toArray⟩) rfl (by kernel_rfl) (fun _ _ _ h => h) rfl rfl (fun W hW => ex_scatv W 9 9 _ _ rfl s2 i2 s3 l3.out y3.out rfl rfl) hS.out ?_
      simp only [Act.put, spA, spB, spC]
      refine rn_takeT [16, 17, 18, 19] (i := 12) (dst := some 47) (v := .string ⟨(s4).toArray⟩) rfl (by kernel_rfl) (fun _ _ _ h => h) rfl rfl (fun W hW => ex_scatv W 9 9 _ _ rfl s3 [32] s4 l4.out y4.out rfl rfl) hS.out ?_
      simp only [Act.put, spA, spB, spC]
      refine rn_one (i := 15) (dst := some 50) rfl (by kernel_rfl) rfl rfl (fun K hK => ?_)
      refine ow_call 48 _ _ rfl Tryz.func48 (by kernel_rfl) (by kernel_rfl) [.int .i64 m] rfl (c3.out _) ?_
      rintro e u8 ⟨rfl, k1⟩
      have hS1 : Hd ((fun W : World => Kp (fun _ => False) w4 W) u8) := ⟨hS.out.andThen k1 (fun _ _ h => h)⟩
      refine ⟨_, rfl, hK _ _ (fun _ => hS1.out) ?_⟩
      clear hK K hS k1
      have hS := hS1
      clear hS1
      simp only [Act.put, spA, spB, spC]
      refine rn_takeT [17, 18, 19] (i := 16) (dst := some 51) (v := .string ⟨(s5).toArray⟩) rfl (by kernel_rfl) (fun _ _ _ h => h) rfl rfl (fun W hW => ex_scatv W 9 9 _ _ rfl s4 i3 s5 l5.out y5.out rfl rfl) hS.out ?_
      simp only [Act.put, spA, spB, spC]
      have hu3 : Hd (Kp (fun _ => False) w4 (u8.alloc (.cells #[.string ⟨s5.toArray⟩] 9))) := ⟨hS.out.alloc _⟩
      have KU := Hd.mk (KT.out.andThen hu3.out (fun _ _ h => h))
      have RU := Hd.mk (RT.out.keep hu3.out)
      refine rn_one (i := 17) (dst := some 52) rfl (by kernel_rfl) rfl rfl (fun K hK => ?_)
      refine ow_slit1 _ rfl s5 rfl ?_
      refine hK _ _ (fun _ => hu3.out) ?_
      clear hK K hS
      simp only [Act.put, spA, spB, spC]
      have hnn : Hd ((tl3 pages cache cap ++ (fl.take k).map ftl).length ≤ 1000000000) := ⟨by
        have := List.length_take_le k fl
        simp only [tl3, List.length_append, List.length_cons, List.length_nil, List.length_map]
        omega⟩
      refine rn_one (i := 18) (dst := some 53) rfl (by kernel_rfl) rfl rfl (fun K hK => ?_)
      refine ow_or (.tmp 35) (.tmp 52) 48 rfl 9 1 16 Tryz.underlying48 info9b rfl (by decide) (by decide) u3 _ _ rfl RU.out KU.out.size u8.heap.size 1 [.string ⟨s5.toArray⟩] rfl rfl (one_new _ _ _) (by simp [Value.oneCell']) hnn.out ?_
      intro v5 w5 ho hbl
      have ho := Hd.mk ho
      have K5 := Hd.mk (KU.out.andThen (Kp.of_below' hbl) (fun i hi e => by omega))
      refine hK _ _ (fun h => (by cases h)) ?_
      clear hK K hbl hu3
      simp only [Act.put, spA, spB, spC]
      refine rn_one (i := 19) (dst := some 3) rfl (by kernel_rfl) rfl rfl (fun K hK => ?_)
      refine ow_run (ex_assign _ _ _ rfl rfl) ?_
      refine hK _ _ (fun h => (by cases h)) ?_
      clear hK K
      simp only [Act.put, spA, spB, spC]
      refine rn_done (by kernel_rfl) ?_ _
      go_wp2_with fail
      exact ⟨⟨k + 1, by go_num, by omega, ⟨⟨by
        rw [hmt.out, hs5.out, ← List.append_assoc, wcl_app, List.length_append]
        exact ho.out, K5.out⟩⟩⟩, by simp [intOf]; omega⟩
    · have hltI : ¬ (k : Int) < (nf : Int) := by omega
      have HT : Hd (Tp w1.heap.size w1 wr u3 (tl3 pages cache cap ++ fl.map ftl ++ (ss.take 0).map stl)) := ⟨HT.out.eq (by rw [List.take_of_length_le (by rw [hnf.out]; omega)]; simp)⟩
      obtain ⟨hd, hhd⟩ : ∃ l, Hd (tl3 pages cache cap ++ fl.map ftl = l) := ⟨_, ⟨rfl⟩⟩
      rw [hhd.out] at HT
      have hdl : Hd (hd.length ≤ 20) := ⟨by
        rw [← hhd.out]
        have := hnf.out
        simp only [tl3, List.length_append, List.length_cons, List.length_nil, List.length_map]
        omega⟩
      go_wp2_with fail
      clear d0 d1 d2 d3 d4 d5
      go_loopw [6, 3] (fun v6 v3 wr => ∃ i : Nat, v6 = .int .i64 i ∧ i ≤ ns ∧ Hd (Tp w1.heap.size w1 wr v3 (hd ++ (ss.take i).map stl))) (fun v6 _ _ => ns - (intOf v6).toNat)
      case atStart => exact ⟨0, rfl, Nat.zero_le _, HT⟩
      case round =>
        clear HT
        obtain ⟨i, rfl, hi, HI⟩ := hrel
        obtain ⟨d0, d1, d2, d3, d4, d5⟩ := hbx.out _ HI.out.kp
        by_cases h2 : i < ns
        · have hiI : (i : Int) < (ns : Int) := by omega
          have hib : (i : Int) + 1 ≤ 1000001 := by omega
          obtain ⟨x, hx⟩ : ∃ x, ss[i]? = some x := ⟨_, List.getElem?_eq_getElem (by rw [hns.out]; exact h2)⟩
          have hxl := hss.out i x hx
          have hmt := Hd.mk (map_take (f := stl) hx)
          obtain ⟨sl, hsl⟩ : ∃ l, Hd (stl x = l) := ⟨_, ⟨rfl⟩⟩
          have e5 : stl x = [115, 116, 111, 112, 32] ++ quote x false := rfl
          have ql := quote_length x false
          have hx24 : x.length < 100000000 := by omega
          have hqt : Hd (∀ {u : World} {v : Value}, Bs u v (ints x) → Calls Tryz.prog 18 #[v, .bool false] u fun e w' => e = .returned (.string ⟨(quote x false).toArray⟩) ∧ Kp (fun _ => False) u w') := ⟨fun {u v} hB => rquote_at hB false hx24⟩
          obtain ⟨qx, hqx⟩ : ∃ l, quote x false = l := ⟨_, rfl⟩
          rw [hqx] at hqt e5 ql
          have y1 : Hd (sl = [115, 116, 111, 112, 32] ++ qx) := ⟨by rw [← hsl.out, e5]⟩
          have l1 : Hd (([115, 116, 111, 112, 32] : List UInt8).length + qx.length ≤ 9000000000000000000) := ⟨by simp only [List.length_cons, List.length_nil]; omega⟩
          obtain ⟨g, o, rfl, _⟩ := (HS.out.keep HI.out.kp).cell hx
          have dx : Hd (∀ W, Kp (fun _ => False) w1 W → W.cell? ⟨g, o + i, none⟩ = some (.string ⟨x.toArray⟩)) := ⟨fun W hW => by
            obtain ⟨g', o', e', hc⟩ := (HS.out.keep hW).cell hx
            injection e' with e'
            injection e' with e1 e2 e3
            subst e1; subst e2
            exact hc⟩
          clear hx hx24 hqx e5 ql hxl
          have c1 := dx.out wr HI.out.kp
          have hnn : Hd ((hd ++ (ss.take i).map stl).length ≤ 1000000000) := ⟨by
            have := List.length_take_le i ss
            have := hdl.out
            simp only [List.length_append, List.length_map]
            omega⟩
          go_wp2_with (first | ((with_reducible refine wl_tobytes rfl 9 22 5 (.tmp 68) rfl Tryz.underlying9 Tryz.underlying22 Tryz.underlying5 x rfl ?_); intro vB w8 hB k8 _ _; have hB := Hd.mk hB; have k8' := Hd.mk k8; clear k8) | (go_at_call 18; refine (hqt.out hB.out).mono ?_; rintro e w9 ⟨rfl, k9⟩; have K9 := Hd.mk (k8'.out.andThen (k9.andThen (kp_alloc w9 (.cells #[.string ⟨sl.toArray⟩] 9)) (fun _ _ h => h)) (fun _ _ h => h)); clear k9; have KU := Hd.mk (HI.out.kp.andThen K9.out (fun _ _ h => h)); have RU := Hd.mk (HI.out.row.keep K9.out); dsimp only) | (with_reducible refine wl_run rfl (ex_scatv _ 9 9 (.const (.string ⟨#[115, 116, 111, 112, 32]⟩)) (.tmp 70) rfl [115, 116, 111, 112, 32] qx sl l1.out y1.out rfl rfl) ?_) | ((with_reducible refine wl_or rfl (.tmp 62) (.tmp 72) 48 rfl 9 1 16 Tryz.underlying48 info9b rfl (by decide) (by decide) _ _ _ rfl RU.out KU.out.size w9.heap.size 1 [.string ⟨sl.toArray⟩] rfl rfl (one_new _ _ _) (by simp [Value.oneCell']) hnn.out ?_); intro v5 w5 ho hbl; have ho := Hd.mk ho; have K5 := Hd.mk (KU.out.andThen (Kp.of_below' hbl) (fun i hi e => by omega)); clear hbl))
          exact ⟨⟨i + 1, by go_num, by omega, ⟨⟨by
            rw [hmt.out, hsl.out, ← List.append_assoc, wcl_app, List.length_append]
            exact ho.out, K5.out⟩⟩⟩, by simp [intOf]; omega⟩
        · have hiI : ¬ (i : Int) < (ns : Int) := by omega
          go_wp2_with fail
          go_ret
          refine ⟨⟨_, rfl, ?_⟩, k01.out.andThen HI.out.kp (fun _ _ h => h)⟩
          have h3 := HI.out.row
          rw [List.take_of_length_le (by rw [hns.out]; omega), ← hhd.out, ← ntl.out] at h3
          exact h3.mono hsz1.out
end Go.Proofs.YtkcechpaeilaeaaGreatDoor

/- Print of any script: the document's. -/
namespace Go.Proofs.YtkcechpaeilaeaaGreatDoor
open Go.RowKit
set_option linter.unusedVariables false
set_option linter.unusedSimpArgs false
set_option maxRecDepth 100000

theorem wl_obS {ops : Array Oper} {rest : List Oper} {o : Oper} {a : Act} {Q : Exit → Act → World → Prop} {b : Nat} {w : World} (hg : o.guard = none) (s x : Operand) (ho : o.op = .call { callee := .builtin .append, args := #[s, x], argTypes := #[22, 9] }) (v : Value) (xs : List Int) (hs : a.eval s = v) (hown : Ob b w v xs) (hb : b ≤ w.heap.size)
    (l : List UInt8) (hx : a.eval x = .string ⟨l.toArray⟩) (h63 : xs.length + l.length ≤ 1000000000000)
    (h : ∀ v' w', Ob b w' v' (xs ++ ints l) → Below b w w' → wpList Tryz.prog ops Q rest (a.put o.dst v') w') : wpList Tryz.prog ops Q (o :: rest) a w :=
  wpList_plain hg fun _ hK => ow_obS s x ho v xs hs hown hb l hx h63 (fun v' w' a b => hK _ _ (h v' w' a b))
/-- The text of lines. -/
def ltext (L : List (List UInt8)) : List UInt8 := L.flatMap (fun l => l ++ [10])
theorem ltext_take {L : List (List UInt8)} {k : Nat} {x : List UInt8} (h : L[k]? = some x) : ltext (L.take (k + 1)) = ltext (L.take k) ++ x ++ [10] := by
  unfold ltext
  rw [flat_take h, List.append_assoc]
theorem ltext_le (L : List (List UInt8)) (h : ∀ l ∈ L, l.length ≤ 60000) : (ltext L).length ≤ 60001 * L.length := by
  induction L with
  | nil => simp [ltext]
  | cons x L ih =>
    have h1 := h x (by simp)
    have h2 := ih (fun l hl => h l (by simp [hl]))
    have e : ltext (x :: L) = (x ++ [10]) ++ ltext L := by simp [ltext]
    rw [e, List.length_append, List.length_append, List.length_cons, List.length_cons, List.length_nil]
    omega
theorem tlines_le {s : Sc} (h : Bnd s) : ∀ l ∈ tlines s ++ s.ac.map line, l.length ≤ 60000 := by
  intro l hl
  have one : ∀ z : Int, 0 ≤ z ∧ z ≤ 1000000 → (pkI [z]).length ≤ 22 := fun z hz => by rw [pkI_one, List.length_cons]; have := itoa_b hz; omega
  simp only [tlines, tl3, List.mem_append, List.mem_cons, List.not_mem_nil, or_false, List.mem_map] at hl
  have h1 := one s.pages (by have := h.pg; omega)
  have h2 := one s.cache (by have := h.ch; omega)
  have h3 := one s.cap (by have := h.cp; omega)
  rcases hl with (((rfl | rfl | rfl) | ⟨x, hx, rfl⟩) | ⟨x, hx, rfl⟩) | ⟨x, hx, rfl⟩
  · simp only [List.length_append, List.length_cons, List.length_nil]; omega
  · simp only [List.length_append, List.length_cons, List.length_nil]; omega
  · simp only [List.length_append, List.length_cons, List.length_nil]; omega
  · obtain ⟨i, hi, rfl⟩ := List.getElem_of_mem hx
    have := h.fl i _ (List.getElem?_eq_getElem hi)
    generalize s.fl[i] = y at *
    have h1 := itoa_b (z := y.f) (by omega)
    have h2 := itoa_b (z := y.t) (by omega)
    have h3 := itoa_b (z := y.n) (by omega)
    simp only [ftl, pkI_three, List.length_append, List.length_cons, List.length_nil]; omega
  · obtain ⟨i, hi, rfl⟩ := List.getElem_of_mem hx
    have := h.ss i _ (List.getElem?_eq_getElem hi)
    have := quote_length s.ss[i] false
    simp only [stl, List.length_append, List.length_cons, List.length_nil]; omega
  · obtain ⟨i, hi, rfl⟩ := List.getElem_of_mem hx
    exact line_le (h.ac i _ (List.getElem?_eq_getElem hi))
theorem Bnd.head {s : Sc} (h : Bnd s) : Bnd { s with ac := [] } := ⟨h.pg, h.ch, h.cp, h.nf, h.fl, h.ns, h.ss, by simp, by simp⟩
theorem Or.wos {b : Nat} {w : World} {v : Value} {l : List (List UInt8)} (h : Or b 9 1 w v l.length (wcl l)) : Wos w v l := by
  obtain ⟨A, c, rfl, hc⟩ := h.slice
  refine ⟨A, c, rfl, ?_⟩
  rcases Nat.eq_zero_or_pos l.length with h0 | h0
  · exact .inl (List.length_eq_zero_iff.1 h0)
  · obtain ⟨g, rfl, hr, _⟩ := h.at h0
    exact .inr ⟨g, 0, rfl, hr⟩
theorem Tp.add {b : Nat} {w1 wr w' : World} {v' : Value} {l : List (List UInt8)} {x : List UInt8} (hb : w1.heap.size = b) (k : Kp (fun _ => False) w1 wr) (ho : Or b 9 1 w' v' (l.length + 1) (wcl l ++ [.string ⟨x.toArray⟩])) (hbl : Below b wr w') : Tp b w1 w' v' (l ++ [x]) := by
  subst hb
  exact ⟨by rw [wcl_app, List.length_append]; exact ho, k.andThen (Kp.of_below' hbl) (fun i hi e => by omega)⟩
set_option maxHeartbeats 8000000 in
theorem rprint_at {w : World} {AF AS AA : Option Addr} {cF cS cA : Nat} (s : Sc) (hs : s.small) (hR : ScR w s AF cF AS cS AA cA) :
    Calls Tryz.prog 25 #[.agg #[.int .i64 s.pages, .int .i64 s.cache, .slice AF s.fl.length cF, .slice AS s.ss.length cS, .int .i64 s.cap, .slice AA s.ac.length cA]] w fun e w' => PrR s w w' e := by
  obtain ⟨nf, hnf⟩ : ∃ n, s.fl.length = n := ⟨_, rfl⟩
  obtain ⟨ns, hns⟩ : ∃ n, s.ss.length = n := ⟨_, rfl⟩
  obtain ⟨na, hna⟩ : ∃ n, s.ac.length = n := ⟨_, rfl⟩
  obtain ⟨pages, hpg⟩ : ∃ z, s.pages = z := ⟨_, rfl⟩
  obtain ⟨cache, hch⟩ : ∃ z, s.cache = z := ⟨_, rfl⟩
  obtain ⟨cap, hcp⟩ : ∃ z, s.cap = z := ⟨_, rfl⟩
  obtain ⟨w1, hw1⟩ : ∃ w1, w.alloc (.cells #[.int .i64 pages, .int .i64 cache, .slice AF nf cF, .slice AS ns cS, .int .i64 cap, .slice AA na cA] 53) = w1 := ⟨_, rfl⟩
  have k01 : Hd (Kp (fun _ => False) w w1) := ⟨by rw [← hw1]; exact (Kp.refl _ w).alloc _⟩
  have hbx : Hd (∀ w', Kp (fun _ => False) w1 w' → (w'.cell? ⟨w.heap.size, 0, none⟩ = some (.int .i64 pages) ∧ w'.cell? ⟨w.heap.size, 1, none⟩ = some (.int .i64 cache) ∧ w'.cell? ⟨w.heap.size, 2, none⟩ = some (.slice AF nf cF) ∧ w'.cell? ⟨w.heap.size, 3, none⟩ = some (.slice AS ns cS) ∧ w'.cell? ⟨w.heap.size, 4, none⟩ = some (.int .i64 cap) ∧ w'.cell? ⟨w.heap.size, 5, none⟩ = some (.slice AA na cA)) ∧ w'.rangeAt w.heap.size 0 [.int .i64 pages, .int .i64 cache, .slice AF nf cF, .slice AS ns cS, .int .i64 cap, .slice AA na cA] ∧ w'.rangeAt w.heap.size 2 [.slice AF nf cF, .slice AS ns cS, .int .i64 cap]) := ⟨fun w' hk => by
    rw [← hw1] at hk
    exact box6 _ _ _ _ _ _ _ _ _ hk⟩
  have hck := Hd.mk (rscheck_at (w := w1) s hs (hR.keep k01.out))
  have HR := Hd.mk (hR.keep k01.out)
  have hvs : Hd (∀ u, Kp (fun _ => False) w1 u → Bnd s → Calls Tryz.prog 66 #[.agg #[.int .i64 s.pages, .int .i64 s.cache, .slice AF s.fl.length cF, .slice AS s.ss.length cS, .int .i64 s.cap, .slice AA s.ac.length cA]] u fun e w' => (∃ v, e = .returned v ∧ Or u.heap.size 9 1 w' v (tlines s).length (wcl (tlines s))) ∧ Kp (fun _ => False) u w') := ⟨fun u hk hb => rtop_at s hb.head (HR.out.keep hk)⟩
  rw [hnf, hns, hna, hpg, hch, hcp] at hck hvs
  rw [hnf, hns, hna, hpg, hch, hcp]
  have hna' := Hd.mk hna
  clear hnf hns hna hpg hch hcp hR hs
  have br0 : Hd ((w.alloc (.cells #[.int .i64 pages, .int .i64 cache, .slice AF nf cF, .slice AS ns cS, .int .i64 cap, .slice AA na cA] 53)).rangeAt w.heap.size 0 [.int .i64 pages, .int .i64 cache, .slice AF nf cF, .slice AS ns cS, .int .i64 cap, .slice AA na cA]) := ⟨by rw [hw1]; exact (hbx.out w1 (Kp.refl _ _)).2.1⟩
  have hwq := Hd.mk hw1
  clear hw1
  go_enter Tryz.func25, Tryz.ntmps25
  go_wp2_with (first | (with_reducible refine wl_load_mid rfl 53 (.tmp 1) rfl w.heap.size 0 rfl [.int .i64 pages, .int .i64 cache, .slice AF nf cF, .slice AS ns cS, .int .i64 cap, .slice AA na cA] br0.out Tryz.underlying53 rfl (by kernel_rfl) ?_))
  rw [hwq.out]
  refine hck.out.mono ?_
  rintro e w2 ⟨⟨rfl, hok⟩ | ⟨rfl, hno⟩, k2⟩
  rotate_left
  · have K2 := Hd.mk k2
    have hno := Hd.mk hno
    clear k2
    go_wp2_with fail
    go_ret2
    exact ⟨⟨[], 270, rfl, .inl ⟨hno.out, rfl, rfl⟩⟩, k01.out.andThen K2.out (fun _ _ h => h)⟩
  have K2 := Hd.mk k2
  have hbd := Hd.mk hok.bnd
  have hok := Hd.mk hok
  have hv2 := Hd.mk (hvs.out w2 K2.out hbd.out)
  have br2 := Hd.mk (hbx.out w2 K2.out).2.1
  have hna8 : Hd (na ≤ 400) := ⟨by have := hbd.out.na; rw [hna'.out] at this; exact this⟩
  clear hck k2 br0 hwq hvs
  go_wp2_with (first | (with_reducible refine wl_load_mid rfl 53 (.tmp 1) rfl w.heap.size 0 rfl [.int .i64 pages, .int .i64 cache, .slice AF nf cF, .slice AS ns cS, .int .i64 cap, .slice AA na cA] br2.out Tryz.underlying53 rfl (by kernel_rfl) ?_))
  refine hv2.out.mono ?_
  rintro e w3 ⟨⟨v3, rfl, ho⟩, k3⟩
  have K3 := Hd.mk (K2.out.andThen k3 (fun _ _ h => h))
  have hT0 : Hd (Tp w1.heap.size w1 w3 v3 (tlines s ++ (s.ac.take 0).map line)) := ⟨⟨by simpa using ho.mono K2.out.size, K3.out⟩⟩
  have htl : Hd ((tlines s).length ≤ 43) := ⟨by
    have := hbd.out.nf
    have := hbd.out.ns
    simp only [tlines, tl3, List.length_append, List.length_cons, List.length_nil, List.length_map]
    omega⟩
  clear ho k3 hv2 br2
  go_wp2_with fail
  go_loopw [5, 4] (fun v5 v4 wr => ∃ j : Nat, v5 = .int .i64 j ∧ j ≤ na ∧ Hd (Tp w1.heap.size w1 wr v4 (tlines s ++ (s.ac.take j).map line))) (fun v5 _ _ => na - (intOf v5).toNat)
  case atStart => exact ⟨0, rfl, Nat.zero_le _, hT0⟩
  case round =>
    clear hT0
    obtain ⟨j, rfl, hj, HT⟩ := hrel
    obtain ⟨⟨_, _, _, _, _, d5⟩, _, _⟩ := hbx.out wr HT.out.kp
    by_cases h3 : j < na
    · have hjI : (j : Int) < (na : Int) := by omega
      have hjb : (j : Int) + 1 ≤ 1000001 := by have := hna8.out; omega
      obtain ⟨a, ha⟩ : ∃ a, s.ac[j]? = some a := ⟨_, List.getElem?_eq_getElem (by rw [hna'.out]; exact h3)⟩
      obtain ⟨g, o, rfl, At, ct, Ap, cp, hr, hT, hP⟩ := (HR.out.ac.keep HT.out.kp).row ha
      have hm := hbd.out.ac j a ha
      have hat := Hd.mk (map_take (f := line) ha)
      have hla := Hd.mk (rline_at a At ct Ap cp hT hP)
      rw [lineV_yes hm] at hla
      obtain ⟨ln, hln⟩ : ∃ x, Hd (line a = x) := ⟨_, ⟨rfl⟩⟩
      rw [hln.out] at hla hat
      have hr := Hd.mk hr
      have hnn : Hd ((tlines s ++ (s.ac.take j).map line).length ≤ 1000000000) := ⟨by
        have := htl.out
        have := List.length_take_le j s.ac
        have := hna8.out
        simp only [List.length_append, List.length_map]
        omega⟩
      clear hm hT hP ha hln
      obtain ⟨d, k0, t0, n0, p0⟩ := a
      simp only at hr hla
      obtain ⟨L, hL⟩ : ∃ L, Hd (tlines s ++ (s.ac.take j).map line = L) := ⟨_, ⟨rfl⟩⟩
      rw [hL.out] at HT hnn
      go_wp2_with (first | (with_reducible refine wl_load_mid rfl 24 (.tmp 26) rfl g (o + j * 5) rfl [.int .i64 d, .string ⟨k0.toArray⟩, .slice At t0.length ct, .int .i64 n0, .slice Ap p0.length cp] hr.out Tryz.underlying24 rfl (by kernel_rfl) ?_))
      refine hla.out.mono ?_
      rintro e w5 ⟨rfl, k5⟩
      have hO := Hd.mk (HT.out.row.keep (k5.andThen (kp_alloc w5 (.cells #[.string ⟨ln.toArray⟩] 9)) (fun _ _ h => h)))
      have K5 := Hd.mk (HT.out.kp.andThen (k5.andThen (kp_alloc w5 (.cells #[.string ⟨ln.toArray⟩] 9)) (fun _ _ h => h)) (fun _ _ h => h))
      clear k5 d5
      dsimp only
      iterate 30 (first | go_values | go_skip | go_guarded | go_step | go_upon | go_in | go_back)
      refine ow_or (.tmp 31) (.tmp 33) 48 rfl 9 1 16 Tryz.underlying48 info9b rfl (by decide) (by decide) u4 _ _ rfl hO.out K5.out.size w5.heap.size 1 [.string ⟨ln.toArray⟩] rfl rfl (one_new _ _ _) (by simp [Value.oneCell']) hnn.out ?_
      intro v6 w6 ho hb2
      have hT6 := Hd.mk (Tp.add rfl K5.out ho hb2)
      clear ho hb2
      go_wp2_with fail
      exact ⟨⟨j + 1, by go_num, by omega, ⟨hT6.out.eq (by rw [hat.out, ← List.append_assoc, hL.out])⟩⟩, by simp [intOf]; omega⟩
    · have hjI : ¬ (j : Int) < (na : Int) := by omega
      have HT : Hd (Tp w1.heap.size w1 wr u4 (tlines s ++ s.ac.map line)) := ⟨HT.out.eq (by rw [List.take_of_length_le (by rw [hna'.out]; omega)])⟩
      have hpt : Hd (ptext s = ltext (tlines s ++ s.ac.map line)) := ⟨ptext_lines s⟩
      have hll : Hd (∀ l ∈ tlines s ++ s.ac.map line, l.length ≤ 60000) := ⟨tlines_le hbd.out⟩
      have hnn : Hd ((tlines s ++ s.ac.map line).length ≤ 443) := ⟨by
        have := htl.out
        have := hbd.out.na
        simp only [List.length_append, List.length_map]
        omega⟩
      obtain ⟨L, hL⟩ : ∃ L, tlines s ++ s.ac.map line = L := ⟨_, rfl⟩
      rw [hL] at HT hpt hll hnn
      clear hL
      obtain ⟨A4, c4, rfl, _⟩ := HT.out.row.slice
      have HW := Hd.mk HT.out.row.wos
      obtain ⟨N, hNe⟩ : ∃ N, L.length = N := ⟨_, rfl⟩
      rw [hNe] at HW hnn ⊢
      have hNe := Hd.mk hNe
      have KT := Hd.mk HT.out.kp
      have hle : Hd (∀ i, (ltext (L.take i)).length ≤ 100000000) := ⟨fun i => by
        have h1 := ltext_le (L.take i) (fun l hl => hll.out l (List.mem_of_mem_take hl))
        have h2 := List.length_take_le' i L
        have h3 := hNe.out
        have h4 := hnn.out
        omega⟩
      clear HT
      go_wp2_with fail
      have hO0 : Hd (Ob wr.heap.size (wr.alloc (.cells #[] 5)) (.slice (some ⟨wr.heap.size, 0, none⟩) 0 0) (ints (ltext (L.take 0))) ∧ Below wr.heap.size wr (wr.alloc (.cells #[] 5))) := ⟨Ob.fresh wr _ (Nat.le_refl _), (Below.refl _ wr).alloc (Nat.le_refl _) _⟩
      obtain ⟨W0, hW0⟩ : ∃ W, Hd (wr = W) := ⟨_, ⟨rfl⟩⟩
      rw [hW0.out] at hO0 KT HW
      clear d5
      go_loopw [9, 8] (fun v9 v8 wr => ∃ i : Nat, v9 = .int .i64 i ∧ i ≤ N ∧ Hd (Ob W0.heap.size wr v8 (ints (ltext (L.take i))) ∧ Below W0.heap.size W0 wr)) (fun v9 _ _ => N - (intOf v9).toNat)
      case atStart => exact ⟨0, rfl, Nat.zero_le _, by rw [hW0.out]; exact hO0⟩
      case round =>
        clear hO0
        obtain ⟨i, rfl, hi, HO⟩ := hrel
        have KO := Hd.mk (Kp.of_below HO.out.2 (fun _ => False))
        by_cases h4 : i < N
        · have hiI : (i : Int) < (N : Int) := by omega
          have hib : (i : Int) + 1 ≤ 1000001 := by have := hnn.out; omega
          obtain ⟨x, hx⟩ : ∃ x, L[i]? = some x := ⟨_, List.getElem?_eq_getElem (by rw [hNe.out]; exact h4)⟩
          obtain ⟨g, o, rfl, c1⟩ := (HW.out.keep KO.out).cell hx
          have hlt := Hd.mk (ltext_take hx)
          have hxl := hll.out x (List.mem_of_getElem? hx)
          have hb1 : Hd ((ints (ltext (L.take i))).length + x.length ≤ 1000000000000) := ⟨by have := hle.out i; rw [ints_length]; omega⟩
          have hb2 : Hd ((ints (ltext (L.take i)) ++ ints x).length + ([10] : List Int).length ≤ 1000000000000) := ⟨by have := hle.out i; rw [List.length_append, ints_length, ints_length, List.length_cons, List.length_nil]; omega⟩
          clear hx hxl
          have HO1 := Hd.mk HO.out.1
          have HO2 := Hd.mk HO.out.2
          clear HO
          obtain ⟨P, hP⟩ : ∃ P, Hd (ints (ltext (L.take i)) = P) := ⟨_, ⟨rfl⟩⟩
          rw [hP.out] at HO1 hb1 hb2
          go_wp2_with (first | ((with_reducible refine wl_obS rfl (.tmp 42) (.tmp 46) rfl _ P rfl HO1.out HO2.out.size x rfl hb1.out ?_); intro v6 w6 h6 hb6; have hO6 := Hd.mk (h6.keep (kp_alloc w6 (.cells #[.int .u8 10] 5))); have hB6 := Hd.mk (HO2.out.trans (hb6.trans ((Below.refl _ w6).alloc (HO2.out.trans hb6).size (.cells #[.int .u8 10] 5)))); have hy6 : Hd (Bs (w6.alloc (.cells #[.int .u8 10] 5)) (.slice (some ⟨w6.heap.size, 0, none⟩) 1 1) [10]) := ⟨fresh_Bs w6 5 [10]⟩; clear h6 hb6) | ((with_reducible refine wl_ob rfl (.tmp 48) (.tmp 49) rfl v6 _ rfl hO6.out hB6.out.size (.slice (some ⟨w6.heap.size, 0, none⟩) 1 1) [10] rfl hy6.out hb2.out ?_); intro v7 w7 h7 hb7; have h7 := Hd.mk h7; have hB7 := Hd.mk (hB6.out.trans hb7); clear hb7))
          exact ⟨⟨i + 1, by go_num, by omega, ⟨by
            rw [hlt.out, ints_append, ints_append, hP.out]
            exact h7.out, hB7.out⟩⟩, by simp [intOf]; omega⟩
        · have hiI : ¬ (i : Int) < (N : Int) := by omega
          have hO : Hd (Ob W0.heap.size wr u8 (ints (ptext s))) := ⟨by
            have h5 := HO.out.1
            rw [List.take_of_length_le (by rw [hNe.out]; omega), ← hpt.out] at h5
            exact h5⟩
          have hlen : (ptext s).length ≤ 100000000 := by
            have h6 := hle.out L.length
            rw [List.take_length, ← hpt.out] at h6
            exact h6
          obtain ⟨tx, htx⟩ : ∃ x, Hd (ptext s = x) := ⟨_, ⟨rfl⟩⟩
          rw [htx.out] at hO hlen
          have hB := Hd.mk hO.out.bs
          obtain ⟨A8, c8, rfl, _⟩ := hO.out.bs
          rw [ints_length] at hB ⊢
          have KF : Hd (Kp (fun _ => False) w wr) := ⟨k01.out.andThen (KT.out.andThen KO.out (fun _ _ h => h)) (fun _ _ h => h)⟩
          clear hO HO
          by_cases hq : 65536 < tx.length
          · have hq2 : (65536 : Int) < (tx.length : Int) := by omega
            go_wp2_with fail
            go_ret2
            exact ⟨⟨[], 3, rfl, .inr (.inl ⟨hok.out, by rw [htx.out]; exact hq, rfl, rfl⟩)⟩, KF.out⟩
          · have hq2 : ¬ (65536 : Int) < (tx.length : Int) := by omega
            go_wp2_with (first | (with_reducible refine wl_run rfl (ex_tostr _ 22 9 5 (.tmp 54) rfl Tryz.underlying22 Tryz.underlying5 Tryz.underlying9 (.slice A8 tx.length c8) tx hB.out rfl) ?_))
            go_ret2
            exact ⟨⟨tx, 0, rfl, .inr (.inr ⟨hok.out, by rw [htx.out]; omega, htx.out.symm, rfl⟩)⟩, KF.out⟩
end Go.Proofs.YtkcechpaeilaeaaGreatDoor

/- Print of any script: the program's. -/
namespace Go.Proofs.YtkcechpaeilaeaaGreatDoor
open Go.RowKit
set_option linter.unusedVariables false
set_option linter.unusedSimpArgs false
set_option maxRecDepth 100000

/-- The builder's text so far, told by what it is. -/
theorem Lx.eq {w1 wr : World} {B : Nat} {l l' : List UInt8} {c c' : Nat} (h : Lx w1 B wr l c) (e : l = l') (hc : c ≤ c') : Lx w1 B wr l' c' := e ▸ h.le hc
theorem hd3_eq (p c k : Int) : [] ++ [112, 97, 103, 101, 115] ++ pkI [p] ++ [10] ++ [99, 97, 99, 104, 101] ++ pkI [c] ++ [10] ++ [99, 97, 112] ++ pkI [k] ++ [10] = hd3 p c k := rfl
set_option maxHeartbeats 8000000 in
theorem print_at {w : World} {AF AS AA : Option Addr} {cF cS cA : Nat} (s : Sc) (hs : s.small) (hE : Ev w) (hR : ScR w s AF cF AS cS AA cA) :
    Calls Tryz.prog 24 #[.agg #[.int .i64 s.pages, .int .i64 s.cache, .slice AF s.fl.length cF, .slice AS s.ss.length cS, .int .i64 s.cap, .slice AA s.ac.length cA]] w fun e w' => PrR s w w' e := by
  obtain ⟨nf, hnf⟩ : ∃ n, s.fl.length = n := ⟨_, rfl⟩
  obtain ⟨ns, hns⟩ : ∃ n, s.ss.length = n := ⟨_, rfl⟩
  obtain ⟨na, hna⟩ : ∃ n, s.ac.length = n := ⟨_, rfl⟩
  obtain ⟨pages, hpg⟩ : ∃ z, s.pages = z := ⟨_, rfl⟩
  obtain ⟨cache, hch⟩ : ∃ z, s.cache = z := ⟨_, rfl⟩
  obtain ⟨cap, hcp⟩ : ∃ z, s.cap = z := ⟨_, rfl⟩
  obtain ⟨w1, hw1⟩ : ∃ w1, w.alloc (.cells #[.int .i64 pages, .int .i64 cache, .slice AF nf cF, .slice AS ns cS, .int .i64 cap, .slice AA na cA] 53) = w1 := ⟨_, rfl⟩
  have k01 : Hd (Kp (fun _ => False) w w1) := ⟨by rw [← hw1]; exact (Kp.refl _ w).alloc _⟩
  have hbx : Hd (∀ w', Kp (fun _ => False) w1 w' → (w'.cell? ⟨w.heap.size, 0, none⟩ = some (.int .i64 pages) ∧ w'.cell? ⟨w.heap.size, 1, none⟩ = some (.int .i64 cache) ∧ w'.cell? ⟨w.heap.size, 2, none⟩ = some (.slice AF nf cF) ∧ w'.cell? ⟨w.heap.size, 3, none⟩ = some (.slice AS ns cS) ∧ w'.cell? ⟨w.heap.size, 4, none⟩ = some (.int .i64 cap) ∧ w'.cell? ⟨w.heap.size, 5, none⟩ = some (.slice AA na cA)) ∧ w'.rangeAt w.heap.size 0 [.int .i64 pages, .int .i64 cache, .slice AF nf cF, .slice AS ns cS, .int .i64 cap, .slice AA na cA] ∧ w'.rangeAt w.heap.size 2 [.slice AF nf cF, .slice AS ns cS, .int .i64 cap]) := ⟨fun w' hk => by
    rw [← hw1] at hk
    exact box6 _ _ _ _ _ _ _ _ _ hk⟩
  have hck := Hd.mk (scheck_at (w := w1) s hs (hR.keep k01.out))
  have HR := Hd.mk (hR.keep k01.out)
  have hE := Hd.mk (hE.keep k01.out)
  rw [hnf, hns, hna, hpg, hch, hcp] at hck
  rw [hnf, hns, hna, hpg, hch, hcp]
  have hnf' := Hd.mk hnf
  have hns' := Hd.mk hns
  have hna' := Hd.mk hna
  have hpg' := Hd.mk hpg
  have hch' := Hd.mk hch
  have hcp' := Hd.mk hcp
  clear hnf hns hna hpg hch hcp hR hs
  have br0 : Hd ((w.alloc (.cells #[.int .i64 pages, .int .i64 cache, .slice AF nf cF, .slice AS ns cS, .int .i64 cap, .slice AA na cA] 53)).rangeAt w.heap.size 0 [.int .i64 pages, .int .i64 cache, .slice AF nf cF, .slice AS ns cS, .int .i64 cap, .slice AA na cA]) := ⟨by rw [hw1]; exact (hbx.out w1 (Kp.refl _ _)).2.1⟩
  have hwq := Hd.mk hw1
  clear hw1
  go_enter Tryz.func24, Tryz.ntmps24
  go_wp2_with (first | (with_reducible refine wl_load_mid rfl 53 (.tmp 1) rfl w.heap.size 0 rfl [.int .i64 pages, .int .i64 cache, .slice AF nf cF, .slice AS ns cS, .int .i64 cap, .slice AA na cA] br0.out Tryz.underlying53 rfl (by kernel_rfl) ?_))
  rw [hwq.out]
  refine hck.out.mono ?_
  rintro e w2 ⟨⟨rfl, hok⟩ | ⟨rfl, hno⟩, k2⟩
  rotate_left
  · have K2 := Hd.mk k2
    have hno := Hd.mk hno
    clear k2
    go_wp2_with fail
    go_ret2
    exact ⟨⟨[], 270, rfl, .inl ⟨hno.out, rfl, rfl⟩⟩, k01.out.andThen K2.out (fun _ _ h => h)⟩
  have K2 := Hd.mk k2
  have hbd := Hd.mk hok.bnd
  have hok := Hd.mk hok
  have E2 := Hd.mk (hE.out.keep k2)
  have HR := Hd.mk (HR.out.keep k2)
  have ccB : Hd (∀ w3, Below w2.heap.size w2 w3 → w3.cell? ⟨w.heap.size, 0, none⟩ = some (.int .i64 pages) ∧ w3.cell? ⟨w.heap.size, 1, none⟩ = some (.int .i64 cache) ∧ w3.cell? ⟨w.heap.size, 2, none⟩ = some (.slice AF nf cF) ∧ w3.cell? ⟨w.heap.size, 3, none⟩ = some (.slice AS ns cS) ∧ w3.cell? ⟨w.heap.size, 4, none⟩ = some (.int .i64 cap) ∧ w3.cell? ⟨w.heap.size, 5, none⟩ = some (.slice AA na cA)) := ⟨fun w3 hb => (hbx.out w3 (K2.out.andThen (Kp.of_below hb _) (fun _ _ h => h))).1⟩
  have L1 := Hd.mk (Lx.fresh w2)
  obtain ⟨d0, d1, d2, d3, d4, d5⟩ := ccB.out _ L1.out.below
  have b1 : Hd (0 ≤ pages ∧ pages ≤ 1000000) := ⟨by have := hbd.out.pg; rw [hpg'.out] at this; omega⟩
  have b2 : Hd (0 ≤ cache ∧ cache ≤ 1000000) := ⟨by have := hbd.out.ch; rw [hch'.out] at this; omega⟩
  have b3 : Hd (0 ≤ cap ∧ cap ≤ 1000000) := ⟨by have := hbd.out.cp; rw [hcp'.out] at this; omega⟩
  clear hck k2 br0 hE hwq
  go_wp2_with fail
  refine (print1_z L1.out E2.out (by decide) [112, 97, 103, 101, 115] (by decide) pages b1.out _ (by show _ = (w2.heap.push _).size; simp)).mono ?_
  rintro e w3 ⟨rfl, L2⟩
  have L2 := Hd.mk L2
  clear L1 d0 d1 d2 d3 d4 d5
  obtain ⟨d0, d1, d2, d3, d4, d5⟩ := ccB.out _ L2.out.below
  go_wp2_with fail
  refine (print1_z L2.out E2.out (by decide) [99, 97, 99, 104, 101] (by decide) cache b2.out _ rfl).mono ?_
  rintro e w4 ⟨rfl, L3⟩
  have L3 := Hd.mk L3
  clear L2 d0 d1 d2 d3 d4 d5
  obtain ⟨d0, d1, d2, d3, d4, d5⟩ := ccB.out _ L3.out.below
  go_wp2_with fail
  refine (print1_z L3.out E2.out (by decide) [99, 97, 112] (by decide) cap b3.out _ rfl).mono ?_
  rintro e w5 ⟨rfl, L4⟩
  have L4 : Hd (Lx w2 w2.heap.size w5 (hd3 pages cache cap ++ (s.fl.take 0).flatMap fline) (400 + 311 * 0)) := ⟨L4.eq (by rw [hd3_eq]; simp) (by omega)⟩
  clear L3 d0 d1 d2 d3 d4 d5 b1 b2 b3
  obtain ⟨d0, d1, d2, d3, d4, d5⟩ := ccB.out _ L4.out.below
  have hnf8 : Hd (nf ≤ 8) := ⟨by have := hbd.out.nf; rw [hnf'.out] at this; exact this⟩
  go_wp2_with fail
  clear d0 d1 d2 d3 d4 d5
  go_loopw [38] (fun v38 wr => ∃ k : Nat, v38 = .int .i64 k ∧ k ≤ nf ∧ Hd (Lx w2 w2.heap.size wr (hd3 pages cache cap ++ (s.fl.take k).flatMap fline) (400 + 311 * k))) (fun v38 _ => nf - (intOf v38).toNat)
  case atStart => exact ⟨0, rfl, Nat.zero_le _, L4⟩
  case round =>
    clear L4
    obtain ⟨k, rfl, hk, L5⟩ := hrel
    by_cases h1 : k < nf
    · have hltI : (k : Int) < (nf : Int) := by omega
      have hkb : (k : Int) + 1 ≤ 1000001 := by have := hnf8.out; omega
      obtain ⟨x, hx⟩ : ∃ x, s.fl[k]? = some x := ⟨_, List.getElem?_eq_getElem (by rw [hnf'.out]; exact h1)⟩
      obtain ⟨g, o, rfl, hr⟩ := (Fr.keep (HR.out.fl) (Kp.of_below L5.out.below _)).row hx
      have hfb := Hd.mk (hbd.out.fl k x hx)
      have hft := Hd.mk (flat_take (f := fline) hx)
      clear hx
      obtain ⟨f, t, m⟩ := x
      simp only at hr hfb
      have hr := Hd.mk hr
      have z1 : Hd (IntKind.i64.wrap f = f) := ⟨w64 (by have := hfb.out; omega)⟩
      have z2 : Hd (IntKind.i64.wrap t = t) := ⟨w64 (by have := hfb.out; omega)⟩
      have y1 : Hd (0 ≤ f ∧ f ≤ 1000000) := ⟨by have := hfb.out; omega⟩
      have y2 : Hd (0 ≤ t ∧ t ≤ 1000000) := ⟨by have := hfb.out; omega⟩
      have y3 : Hd (0 ≤ m ∧ m ≤ 1000000) := ⟨by have := hfb.out; omega⟩
      obtain ⟨d0, d1, d2⟩ := row3_new wr (.int .i32 f) (.int .i32 t) (.int .i64 m) 100
      have L6 := Hd.mk (L5.out.keep ((Kp.refl _ wr).alloc (.cells #[.int .i32 f, .int .i32 t, .int .i64 m] 100)))
      have c6 : Hd (400 + 311 * k ≤ 800000000) := ⟨by have := hnf8.out; omega⟩
      clear hfb
      go_wp2_with (first | (with_reducible refine wl_load_mid rfl 100 (.tmp 40) rfl g (o + k * 3) rfl [.int .i32 f, .int .i32 t, .int .i64 m] hr.out Tryz.underlying100 rfl (by kernel_rfl) ?_) | (with_reducible refine wl_alloc rfl 100 rfl [.int .i32 0, .int .i32 0, .int .i64 0] (zero100 _) ?_) | ((with_reducible refine wl_store_new rfl 100 (.tmp 7) (.tmp 41) rfl [.int .i32 0, .int .i32 0, .int .i64 0] [.int .i32 f, .int .i32 t, .int .i64 m] rfl rfl (by kernel_rfl) rfl (by simp [Value.oneCell']) ?_)) | (with_reducible refine wl_run rfl (ex_convz _ 21 3 (.tmp 44) rfl (by kernel_rfl) .i64 Tryz.underlying3 .i32 f f rfl z1.out) ?_) | (with_reducible refine wl_run rfl (ex_convz _ 21 3 (.tmp 47) rfl (by kernel_rfl) .i64 Tryz.underlying3 .i32 t t rfl z2.out) ?_))
      refine (print1_3 L6.out E2.out c6.out [102, 111, 108, 100] (by decide) f t m y1.out y2.out y3.out _ (by first | rfl | (show _ = (wr.heap.push _).size; simp))).mono ?_
      rintro e w6 ⟨rfl, L7⟩
      have L7 := Hd.mk L7
      clear L6 L5 d0 d1 d2 hr z1 z2 y1 y2 y3
      go_wp2_with fail
      exact ⟨⟨k + 1, by go_num, by omega, ⟨L7.out.eq (by rw [hft.out]; simp only [fline, List.append_assoc]) (by omega)⟩⟩, by simp [intOf]; omega⟩
    · have hltI : ¬ (k : Int) < (nf : Int) := by omega
      have L5 : Hd (Lx w2 w2.heap.size wr (hd3 pages cache cap ++ s.fl.flatMap fline ++ (s.ss.take 0).flatMap sline) (10000 + 200 * 0)) := ⟨L5.out.eq (by rw [List.take_of_length_le (by rw [hnf'.out]; omega)]; simp) (by have := hnf8.out; omega)⟩
      obtain ⟨d0, d1, d2, d3, d4, d5⟩ := ccB.out _ L5.out.below
      have hns8 : Hd (ns ≤ 32) := ⟨by have := hbd.out.ns; rw [hns'.out] at this; exact this⟩
      obtain ⟨hd, hhd⟩ : ∃ l, Hd (hd3 pages cache cap ++ s.fl.flatMap fline = l) := ⟨_, ⟨rfl⟩⟩
      rw [hhd.out] at L5
      go_wp2_with fail
      clear d0 d1 d2 d3 d4 d5
      go_loopw [58] (fun v58 w5 => ∃ i : Nat, v58 = .int .i64 i ∧ i ≤ ns ∧ Hd (Lx w2 w2.heap.size w5 (hd ++ (s.ss.take i).flatMap sline) (10000 + 200 * i))) (fun v58 _ => ns - (intOf v58).toNat)
      case atStart => exact ⟨0, rfl, Nat.zero_le _, L5⟩
      case round =>
        clear L5
        obtain ⟨i, rfl, hi, L6⟩ := hrel
        by_cases h2 : i < ns
        · have hiI : (i : Int) < (ns : Int) := by omega
          have hib : (i : Int) + 1 ≤ 1000001 := by have := hns8.out; omega
          obtain ⟨x, hx⟩ : ∃ x, s.ss[i]? = some x := ⟨_, List.getElem?_eq_getElem (by rw [hns'.out]; exact h2)⟩
          obtain ⟨g, o, rfl, c1⟩ := (Wos.keep HR.out.ss (Kp.of_below L6.out.below _)).cell hx
          have hxl := Hd.mk (hbd.out.ss i x hx)
          have hst := Hd.mk (flat_take (f := sline) hx)
          have hx24 : Hd (x.length < 100000000) := ⟨by have := hxl.out; omega⟩
          have l4 : Hd (([115, 116, 111, 112, 32] : List UInt8).length + (quote x false).length ≤ 9000000000000000000) := ⟨by have := quote_length x false; have := hxl.out; simp only [List.length_cons, List.length_nil]; omega⟩
          have g4 : Hd (([115, 116, 111, 112, 32] ++ quote x false : List UInt8).length ≤ 100) := ⟨by have := quote_length x false; have := hxl.out; simp only [List.length_append, List.length_cons, List.length_nil]; omega⟩
          have c6 : Hd (10000 + 200 * i ≤ 800000000) := ⟨by have := hns8.out; omega⟩
          obtain ⟨sl, hsl⟩ : ∃ l, Hd ([115, 116, 111, 112, 32] ++ quote x false = l) := ⟨_, ⟨rfl⟩⟩
          have hsx : Hd (sline x = sl ++ [10]) := ⟨by rw [← hsl.out]; rfl⟩
          obtain ⟨qx, hqx⟩ : ∃ l, Hd (quote x false = l) := ⟨_, ⟨rfl⟩⟩
          have hqt : Hd (∀ {u : World} {v : Value}, Bs u v (ints x) → Calls Tryz.prog 17 #[v, .bool false] u fun e w' => e = .returned (.string ⟨qx.toArray⟩) ∧ Kp (fun _ => False) u w') := ⟨fun {u v} hB => by rw [← hqx.out]; exact quote_at hB false hx24.out⟩
          rw [hqx.out] at hsl l4 g4
          rw [hsl.out] at g4
          clear hx hxl
          go_wp2_with (first | ((with_reducible refine wl_tobytes rfl 9 22 5 (.tmp 63) rfl Tryz.underlying9 Tryz.underlying22 Tryz.underlying5 x rfl ?_); intro vB w8 hB k8 _ _; have hB := Hd.mk hB; have L7 := Hd.mk (L6.out.keep k8); clear k8) | (go_at_call 17; refine (hqt.out hB.out).mono ?_; rintro e w9 ⟨rfl, k9⟩; have L8 := Hd.mk (L7.out.keep k9); clear k9; dsimp only) | (with_reducible refine wl_run rfl (ex_scatv _ 9 9 (.const (.string ⟨#[115, 116, 111, 112, 32]⟩)) (.tmp 65) rfl [115, 116, 111, 112, 32] qx sl l4.out hsl.out.symm rfl rfl) ?_) | (go_at_call 65; refine (print1_no L8.out sl 100 g4.out (by decide) c6.out).mono ?_; rintro e w10 ⟨rfl, L9⟩; have L9 := Hd.mk L9; dsimp only))
          exact ⟨⟨i + 1, by go_num, by omega, ⟨L9.out.eq (by rw [hst.out, hsx.out]; simp only [List.append_assoc]) (by omega)⟩⟩, by simp [intOf]; omega⟩
        · have hiI : ¬ (i : Int) < (ns : Int) := by omega
          have L6 : Hd (Lx w2 w2.heap.size wr (hd ++ s.ss.flatMap sline ++ (s.ac.take 0).flatMap aline) (30000 + 60001 * 0)) := ⟨L6.out.eq (by rw [List.take_of_length_le (by rw [hns'.out]; omega)]; simp) (by have := hns8.out; omega)⟩
          obtain ⟨d0, d1, d2, d3, d4, d5⟩ := ccB.out _ L6.out.below
          have hna8 : Hd (na ≤ 400) := ⟨by have := hbd.out.na; rw [hna'.out] at this; exact this⟩
          obtain ⟨h2, hh2⟩ : ∃ l, Hd (hd ++ s.ss.flatMap sline = l) := ⟨_, ⟨rfl⟩⟩
          rw [hh2.out] at L6
          go_wp2_with fail
          clear d0 d1 d2 d3 d4 d5
          go_loopw [72] (fun v72 w6 => ∃ j : Nat, v72 = .int .i64 j ∧ j ≤ na ∧ Hd (Lx w2 w2.heap.size w6 (h2 ++ (s.ac.take j).flatMap aline) (30000 + 60001 * j))) (fun v72 _ => na - (intOf v72).toNat)
          case atStart => exact ⟨0, rfl, Nat.zero_le _, L6⟩
          case round =>
            clear L6
            obtain ⟨j, rfl, hj, L7⟩ := hrel
            by_cases h3 : j < na
            · have hjI : (j : Int) < (na : Int) := by omega
              have hjb : (j : Int) + 1 ≤ 1000001 := by have := hna8.out; omega
              obtain ⟨a, ha⟩ : ∃ a, s.ac[j]? = some a := ⟨_, List.getElem?_eq_getElem (by rw [hna'.out]; exact h3)⟩
              obtain ⟨g, o, rfl, At, ct, Ap, cp, hr, hT, hP⟩ := (Ar.keep HR.out.ac (Kp.of_below L7.out.below _)).row ha
              have hm := hbd.out.ac j a ha
              have hat := Hd.mk (flat_take (f := aline) ha)
              have K5 : Hd (Lx w2 w2.heap.size (wr.alloc (.cells #[.int .i64 a.d, .string ⟨a.k.toArray⟩, .slice At a.t.length ct, .int .i64 a.n, .slice Ap a.p.length cp] 24)) (h2 ++ (s.ac.take j).flatMap aline) (30000 + 60001 * j)) := ⟨L7.out.keep ((Kp.refl _ _).alloc _)⟩
              have hla := Hd.mk (line_at a (K5.out.ev rfl E2.out) At ct Ap cp (bs_kpz hT ((Kp.refl _ _).alloc _)) (bs_kpz hP ((Kp.refl _ _).alloc _)))
              rw [lineV_yes hm] at hla
              have hl1 := Hd.mk (line_le hm)
              obtain ⟨ln, hln⟩ : ∃ x, Hd (line a = x) := ⟨_, ⟨rfl⟩⟩
              have hax : Hd (aline a = ln ++ [10]) := ⟨by rw [← hln.out]; rfl⟩
              rw [hln.out] at hla hl1
              have c6 : Hd (30000 + 60001 * j ≤ 800000000) := ⟨by have := hna8.out; omega⟩
              have hr := Hd.mk hr
              clear hm hT hP ha
              obtain ⟨d, k0, t0, n0, p0⟩ := a
              simp only at hr hla K5
              go_wp2_with (first | (with_reducible refine wl_load_mid rfl 24 (.tmp 74) rfl g (o + j * 5) rfl [.int .i64 d, .string ⟨k0.toArray⟩, .slice At t0.length ct, .int .i64 n0, .slice Ap p0.length cp] hr.out Tryz.underlying24 rfl (by kernel_rfl) ?_) | (go_at_call 9; refine hla.out.mono ?_; rintro e w7 ⟨rfl, hk5⟩; have L8 := Hd.mk (K5.out.keep hk5); clear hk5; dsimp only) | (go_at_call 65; refine (print1_no L8.out ln 60000 hl1.out (by decide) c6.out).mono ?_; rintro e w8 ⟨rfl, L9⟩; have L9 := Hd.mk L9; dsimp only))
              exact ⟨⟨j + 1, by go_num, by omega, ⟨L9.out.eq (by rw [hat.out, hax.out]; simp only [List.append_assoc]) (by omega)⟩⟩, by simp [intOf]; omega⟩
            · have hjI : ¬ (j : Int) < (na : Int) := by omega
              have L7 : Hd (Lx w2 w2.heap.size wr (ptext s) (30000 + 60001 * j)) := ⟨L7.out.eq (by rw [List.take_of_length_le (by rw [hna'.out]; omega), ← hh2.out, ← hhd.out, ← hpg'.out, ← hch'.out, ← hcp'.out]; rfl) (Nat.le_refl _)⟩
              have hlen2 : ((ptext s).length : Int) ≤ 50000000 := by have := L7.out.len; have := hna8.out; omega
              obtain ⟨tx, htx⟩ : ∃ x, Hd (ptext s = x) := ⟨_, ⟨rfl⟩⟩
              rw [htx.out] at L7 hlen2
              by_cases hq : 65536 < tx.length
              · have hq2 : (65536 : Int) < (tx.length : Int) := by omega
                go_wp2_with (first | (go_at_call 37; refine (blen_at L7.out.bd).mono ?_; rintro e w7 ⟨rfl, rfl⟩; dsimp only))
                go_ret2
                exact ⟨⟨[], 3, rfl, .inr (.inl ⟨hok.out, by rw [htx.out]; exact hq, rfl, rfl⟩)⟩, k01.out.andThen (K2.out.andThen (Kp.of_below L7.out.below _) (fun _ _ h => h)) (fun _ _ h => h)⟩
              · have hq2 : ¬ (65536 : Int) < (tx.length : Int) := by omega
                go_wp2_with (first | (go_at_call 37; refine (blen_at L7.out.bd).mono ?_; rintro e w7 ⟨rfl, rfl⟩; dsimp only) | (go_at_call 36; refine (lx_end L7.out).mono ?_; rintro e w9 ⟨rfl, L8⟩; have L8 := Hd.mk L8; dsimp only))
                go_ret2
                exact ⟨⟨tx, 0, rfl, .inr (.inr ⟨hok.out, by rw [htx.out]; omega, htx.out.symm, rfl⟩)⟩, k01.out.andThen (K2.out.andThen (Kp.of_below L8.out.below _) (fun _ _ h => h)) (fun _ _ h => h)⟩
end Go.Proofs.YtkcechpaeilaeaaGreatDoor
