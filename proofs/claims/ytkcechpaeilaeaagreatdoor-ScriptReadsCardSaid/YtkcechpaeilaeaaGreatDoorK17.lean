/- Joined out of: Pe. -/
import Derived.Test.YtkcechpaeilaeaaGreatDoorK16
import Derived.Test.YtkcechpaeilaeaaGreatDoorK14
import Derived.Test.YtkcechpaeilaeaaGreatDoorK6
import Derived.Test.YtkcechpaeilaeaaGreatDoorK10
set_option linter.unusedVariables false
set_option linter.unusedSimpArgs false
namespace Go.Proofs.YtkcechpaeilaeaaGreatDoor
open Go.RowKit
set_option maxRecDepth 100000
def fline (x : Fo) : List UInt8 := [102, 111, 108, 100] ++ pkI [x.f, x.t, x.n] ++ [10]
def sline (l : List UInt8) : List UInt8 := [115, 116, 111, 112, 32] ++ quote l false ++ [10]
def aline (a : A) : List UInt8 := line a ++ [10]
def hd3 (p c k : Int) : List UInt8 := [] ++ [112, 97, 103, 101, 115] ++ pkI [p] ++ [10] ++ [99, 97, 99, 104, 101] ++ pkI [c] ++ [10] ++ [99, 97, 112] ++ pkI [k] ++ [10]
def ptext (s : Sc) : List UInt8 := hd3 s.pages s.cache s.cap ++ s.fl.flatMap fline ++ s.ss.flatMap sline ++ s.ac.flatMap aline
def PrOut (s : Sc) (t : List UInt8) (c : Int) : Prop := (¬ scOk s ∧ t = [] ∧ c = 270) ∨ (scOk s ∧ 65536 < (ptext s).length ∧ t = [] ∧ c = 3) ∨ (scOk s ∧ (ptext s).length ≤ 65536 ∧ t = ptext s ∧ c = 0)
def PrR (s : Sc) (w w' : World) (e : Ending) : Prop := (∃ t c, e = .returned (.tuple #[.string ⟨t.toArray⟩, .int .i64 c]) ∧ PrOut s t c) ∧ KZ w w'
structure Bnd (s : Sc) : Prop where
 pg : 8 ≤ s.pages ∧ s.pages ≤ 2048
 ch : 2 ≤ s.cache ∧ s.cache ≤ 64
 cp : 1 ≤ s.cap ∧ s.cap ≤ 12
 nf : s.fl.length ≤ 8
 fl : ∀ (i : Nat) (x : Fo), s.fl[i]? = some x → (1 ≤ x.n ∧ x.n ≤ 256) ∧ (48 ≤ x.f ∧ x.f ≤ 1279) ∧ (48 ≤ x.t ∧ x.t ≤ 1279)
 ns : s.ss.length ≤ 32
 ss : ∀ (i : Nat) (l : List UInt8), s.ss[i]? = some l → l.length ≤ 24
 na : s.ac.length ≤ 400
 ac : ∀ (i : Nat) (a : A), s.ac[i]? = some a → may a
theorem scOk.bnd {s : Sc} (h : scOk s) : Bnd s := by
 obtain ⟨⟨h1, h2, ⟨⟨h31, h32, h33⟩, h34, h35, h36⟩, h4⟩, h5, h6⟩ := h
 refine ⟨h1, h2, h34, h31, fun i x hx => ?_, h35, fun i l hl => ?_, h5, h6⟩
 ·exact (h32 i (List.getElem?_eq_some_iff.1 hx).1).bd hx
 ·exact (okW_len (h36 i (List.getElem?_eq_some_iff.1 hl).1 l hl).1 h34.2).2
end Go.Proofs.YtkcechpaeilaeaaGreatDoor
namespace Go.Proofs.YtkcechpaeilaeaaGreatDoor
open Go.RowKit
set_option maxRecDepth 100000
def ftl (x : Fo) : List UInt8 := [102, 111, 108, 100] ++ pkI [x.f, x.t, x.n]
def stl (l : List UInt8) : List UInt8 := [115, 116, 111, 112, 32] ++ quote l false
def tl3 (p c k : Int) : List (List UInt8) := [[112, 97, 103, 101, 115] ++ pkI [p], [99, 97, 99, 104, 101] ++ pkI [c], [99, 97, 112] ++ pkI [k]]
def tlines (s : Sc) : List (List UInt8) := tl3 s.pages s.cache s.cap ++ s.fl.map ftl ++ s.ss.map stl
theorem map_take {α : Type} {f : α → List UInt8} {l : List α} {k : Nat} {x : α} (h : l[k]? = some x) : (l.take (k + 1)).map f = (l.take k).map f ++ [f x] := by
 obtain ⟨h1, rfl⟩ := List.getElem?_eq_some_iff.1 h
 rw [List.take_succ_eq_append_getElem h1, List.map_append]
 rfl
theorem pkI_one (z : Int) : pkI [z] = 32 :: Lib.itoa z := by simp [pkI]
theorem pkI_three (x y z : Int) : pkI [x, y, z] = 32 :: Lib.itoa x ++ [32] ++ Lib.itoa y ++ [32] ++ Lib.itoa z := by simp [pkI]
theorem zero9' (w : World) : (zeroValue 9).run Tryz.prog w = .ok (.string ⟨#[]⟩) w := by kernel_rfl
theorem info9i : (Tryz.prog.info? 9).map (·.size) = some 1 := by kernel_rfl
section
variable {ops : Array Oper} {rest : List Oper} {o : Oper} {a : Act} {Q : Exit → Act → World → Prop} {K : Act → World → Prop}
theorem ow_slit1 {w : World} (x : Operand) (ho : o.op = .buildSlice 48 1 #[(0, x)]) (l : List UInt8) (hx : a.eval x = .string ⟨l.toArray⟩)
  (h : K (a.put o.dst (.slice (some ⟨w.heap.size, 0, none⟩) 1 1)) (w.alloc (.cells #[.string ⟨l.toArray⟩] 9))) : o.wp Tryz.prog a w K Q := by
 refine ow_run ?_ h
 unfold execOp
 simp [ho, hx, Instr.buildSlice, Sem.run_bind, run_underlying U48, sizeOf_run w info9i, zero9', Instr.fill, Value.cells, newRow, newObj, Sem.run, map_range1]
theorem ow_slit3 {w : World} (x y z : Operand) (ho : o.op = .buildSlice 48 3 #[(0, x), (1, y), (2, z)]) (l m n : List UInt8) (hx : a.eval x = .string ⟨l.toArray⟩) (hy : a.eval y = .string ⟨m.toArray⟩) (hz : a.eval z = .string ⟨n.toArray⟩)
  (h : K (a.put o.dst (.slice (some ⟨w.heap.size, 0, none⟩) 3 3)) (w.alloc (.cells #[.string ⟨l.toArray⟩, .string ⟨m.toArray⟩, .string ⟨n.toArray⟩] 9))) : o.wp Tryz.prog a w K Q := by
 refine ow_run ?_ h
 unfold execOp
 simp [ho, hx, hy, hz, Instr.buildSlice, Sem.run_bind, run_underlying U48, sizeOf_run w info9i, zero9', Instr.fill, Value.cells, newRow, newObj, Sem.run, map_range3]
end
theorem Or.new3 (w : World) (x y z : List UInt8) (b : Nat) (hb : b ≤ w.heap.size) : Or b 9 1 (w.alloc (.cells #[.string ⟨x.toArray⟩, .string ⟨y.toArray⟩, .string ⟨z.toArray⟩] 9)) (.slice (some ⟨w.heap.size, 0, none⟩) 3 3) 3 (wcl [x, y, z]) :=
 ⟨⟨by simp [wcl], .inr ⟨w.heap.size, 3, _, rfl, Nat.zero_le _, _root_.Go.heap_alloc_new w _, Nat.le_refl _, by decide, rfl, rfl⟩⟩, fun k hk => by cases hk; exact hb⟩
theorem Or.mono {b b' : Nat} {e : TypeId} {size n : Nat} {w : World} {v : Value} {xs : List Value} (h : Or b' e size w v n xs) (hb : b ≤ b') : Or b e size w v n xs := ⟨h.own, fun k hk => Nat.le_trans hb (h.new k hk)⟩
structure Tp (b : Nat) (w1 wr : World) (v : Value) (l : List (List UInt8)) : Prop where
 row : Or b 9 1 wr v l.length (wcl l)
 kp : KZ w1 wr
theorem Tp.eq {b : Nat} {w1 wr : World} {v : Value} {l l' : List (List UInt8)} (h : Tp b w1 wr v l) (e : l = l') : Tp b w1 wr v l' := e ▸ h
theorem num_b {z : Int} (h : 0 ≤ z ∧ z ≤ 1000000) : Hd (∀ u : World, Calls Tryz.prog 48 #[.int .i64 z] u fun e w' => e = .returned (.string ⟨(Lib.itoa z).toArray⟩) ∧ KZ u w') := ⟨fun u => number_z h.1 (by omega) u⟩
theorem itoa_b {z : Int} (h : 0 ≤ z ∧ z ≤ 1000000) : (Lib.itoa z).length ≤ 21 := Lib.itoa_length_le z (by omega) (by omega)
set_option maxHeartbeats 8000000 in
theorem rtop_at {w : World} {AF AS AA : Option Addr} {cF cS cA : Nat} (s : Sc) (hb : Bnd { s with ac := [] }) (hR : ScR w s AF cF AS cS AA cA) :
  Calls Tryz.prog 66 #[.agg #[.int .i64 s.pages, .int .i64 s.cache, .slice AF s.fl.length cF, .slice AS s.ss.length cS, .int .i64 s.cap, .slice AA s.ac.length cA]] w fun e w' => (∃ v, e = .returned v ∧ Or w.heap.size 9 1 w' v (tlines s).length (wcl (tlines s))) ∧ KZ w w' := by
 obtain ⟨pages, cache, fl, ss, cap, ac⟩ := s
 simp only at hb ⊢
 have HF := hR.fl
 have HS := hR.ss
 simp only at HF HS
 have hfl := hb.fl
 have hss := hb.ss
 have hnf8 := hb.nf
 have hns8 := hb.ns
 simp only at hfl hss hnf8 hns8
 have b1 : 0 ≤ pages ∧ pages ≤ 1000000 := by have := hb.pg; simp only at this; omega
 have b2 : 0 ≤ cache ∧ cache ≤ 1000000 := by have := hb.ch; simp only at this; omega
 have b3 : 0 ≤ cap ∧ cap ≤ 1000000 := by have := hb.cp; simp only at this; omega
 have ntl : Hd (tlines ⟨pages, cache, fl, ss, cap, ac⟩ = tl3 pages cache cap ++ fl.map ftl ++ ss.map stl) := ⟨rfl⟩
 obtain ⟨tls, htl⟩ : ∃ t, tlines ⟨pages, cache, fl, ss, cap, ac⟩ = t := ⟨_, rfl⟩
 rw [htl] at ntl ⊢
 clear htl
 obtain ⟨nf, hnf⟩ : ∃ n, fl.length = n := ⟨_, rfl⟩
 obtain ⟨ns, hns⟩ : ∃ n, ss.length = n := ⟨_, rfl⟩
 obtain ⟨na, hna⟩ : ∃ n, ac.length = n := ⟨_, rfl⟩
 obtain ⟨w1, hw1⟩ : ∃ w1, w.alloc (.cells #[.int .i64 pages, .int .i64 cache, .slice AF nf cF, .slice AS ns cS, .int .i64 cap, .slice AA na cA] 53) = w1 := ⟨_, rfl⟩
 have k01 : Hd (KZ w w1) := ⟨by rw [← hw1]; exact (Kp.refl _ w).alloc _⟩
 have hbx0 : ∀ w', KZ w1 w' → (w'.cell? ⟨w.heap.size, 0, none⟩ = some (.int .i64 pages) ∧ w'.cell? ⟨w.heap.size, 1, none⟩ = some (.int .i64 cache) ∧ w'.cell? ⟨w.heap.size, 2, none⟩ = some (.slice AF nf cF) ∧ w'.cell? ⟨w.heap.size, 3, none⟩ = some (.slice AS ns cS) ∧ w'.cell? ⟨w.heap.size, 4, none⟩ = some (.int .i64 cap) ∧ w'.cell? ⟨w.heap.size, 5, none⟩ = some (.slice AA na cA)) := fun w' hk => by
  rw [← hw1] at hk
  exact (box6 _ _ _ _ _ _ _ _ _ hk).1
 have HF := Hd.mk (HF.keep k01.out)
 have HS := Hd.mk (HS.keep k01.out)
 have hsz1 : Hd (w.heap.size ≤ w1.heap.size) := ⟨k01.out.size⟩
 rw [hnf] at HF hnf8
 rw [hns] at HS hns8
 rw [hnf, hns, hna]
 have hnf := Hd.mk hnf
 have hns := Hd.mk hns
 have hfl := Hd.mk hfl
 have hss := Hd.mk hss
 have c1 := num_b b1
 have c2 := num_b b2
 have c3 := num_b b3
 have q1 := itoa_b b1
 have q2 := itoa_b b2
 have q3 := itoa_b b3
 obtain ⟨x1, hx1⟩ : ∃ x, Hd ([112, 97, 103, 101, 115] ++ pkI [pages] = x) := ⟨_, ⟨rfl⟩⟩
 obtain ⟨x2, hx2⟩ : ∃ x, Hd ([99, 97, 99, 104, 101] ++ pkI [cache] = x) := ⟨_, ⟨rfl⟩⟩
 obtain ⟨x3, hx3⟩ : ∃ x, Hd ([99, 97, 112] ++ pkI [cap] = x) := ⟨_, ⟨rfl⟩⟩
 have ht3 : Hd (tl3 pages cache cap = [x1, x2, x3]) := ⟨by rw [← hx1.out, ← hx2.out, ← hx3.out]; rfl⟩
 have p1 := pkI_one pages
 have p2 := pkI_one cache
 have p3 := pkI_one cap
 obtain ⟨i1, hi1⟩ : ∃ x, Lib.itoa pages = x := ⟨_, rfl⟩
 obtain ⟨i2, hi2⟩ : ∃ x, Lib.itoa cache = x := ⟨_, rfl⟩
 obtain ⟨i3, hi3⟩ : ∃ x, Lib.itoa cap = x := ⟨_, rfl⟩
 rw [hi1] at c1 q1 p1
 rw [hi2] at c2 q2 p2
 rw [hi3] at c3 q3 p3
 have y1 : Hd (x1 = [112, 97, 103, 101, 115, 32] ++ i1) := ⟨by rw [← hx1.out, p1]; rfl⟩
 have y2 : Hd (x2 = [99, 97, 99, 104, 101, 32] ++ i2) := ⟨by rw [← hx2.out, p2]; rfl⟩
 have y3 : Hd (x3 = [99, 97, 112, 32] ++ i3) := ⟨by rw [← hx3.out, p3]; rfl⟩
 have l1 : Hd (([112, 97, 103, 101, 115, 32] : List UInt8).length + i1.length ≤ 9000000000000000000) := ⟨by simp only [List.length_cons, List.length_nil]; omega⟩
 have l2 : Hd (([99, 97, 99, 104, 101, 32] : List UInt8).length + i2.length ≤ 9000000000000000000) := ⟨by simp only [List.length_cons, List.length_nil]; omega⟩
 have l3 : Hd (([99, 97, 112, 32] : List UInt8).length + i3.length ≤ 9000000000000000000) := ⟨by simp only [List.length_cons, List.length_nil]; omega⟩
 clear hx1 hx2 hx3 p1 p2 p3 q1 q2 q3 hi1 hi2 hi3 hR hb hna b1 b2 b3
 have hwq := Hd.mk hw1
 clear hw1
 go_enter Tryz.func66, Tryz.ntmps66
 go_wp2_with fail
 rw [hwq.out]
 obtain ⟨B, hBq⟩ : ∃ B, Hd (w.heap.size = B) := ⟨_, ⟨rfl⟩⟩
 rw [hBq.out] at hbx0 ⊢
 have hbx := Hd.mk hbx0
 clear hbx0
 have hS : Hd ((fun W : World => KZ w1 W) w1.drew) := ⟨(Kp.refl _ _).drew⟩
 refine rn_begin (fun W : World => KZ w1 W) (List.range 15) (by kernel_rfl) ?_
 refine rnA 0 7 (.pointer (some ⟨B, 0, none⟩)) (erF 53 0 _ rfl B 0 0 0 0 Tryz.underlying53 rfl) hS.out ?_
 refine rnA 1 8 (.int .i64 (pages)) (fun W hW => ex_load W 3 _ _ rfl ⟨B, 0, none⟩ U3 rfl rfl ((hbx.out W hW).1)) hS.out ?_
 refine rnA 4 11 (.pointer (some ⟨B, 1, none⟩)) (erF 53 1 _ rfl B 0 0 1 1 Tryz.underlying53 rfl) hS.out ?_
 simp only [Act.put, uA, uB, uC]
 refine rnA 5 12 (.int .i64 (cache)) (fun W hW => ex_load W 3 _ _ rfl ⟨B, 1, none⟩ U3 rfl rfl ((hbx.out W hW).2.1)) hS.out ?_
 refine rnA 8 15 (.pointer (some ⟨B, 2, none⟩)) (erF 53 2 _ rfl B 0 2 2 2 Tryz.underlying53 rfl) hS.out ?_
 refine rnA 9 16 (.pointer (some ⟨B, 4, none⟩)) (erF 50 2 _ rfl B 2 0 2 4 Tryz.underlying50 rfl) hS.out ?_
 simp only [Act.put, uA, uB, uC]
 refine rnA 10 17 (.int .i64 (cap)) (fun W hW => ex_load W 3 _ _ rfl ⟨B, 4, none⟩ U3 rfl rfl ((hbx.out W hW).2.2.2.2.1)) hS.out ?_
 simp only [Act.put, uA, uB, uC]
 generalize w1.drew = u0 at *
 refine rn_one (i := 2) (dst := some 9) rfl (by kernel_rfl) rfl rfl (fun K hK => ?_)
 refine ow_call 48 _ _ rfl Tryz.func48 (by kernel_rfl) (by kernel_rfl) [.int .i64 pages] rfl (c1.out _) ?_
 rintro e u1 ⟨rfl, k1⟩
 have hS1 : Hd ((fun W : World => KZ w1 W) u1) := ⟨hS.out.th k1⟩
 refine ⟨_, rfl, hK _ _ (fun _ => hS1.out) ?_⟩
 clear hK K hS k1
 have hS := hS1
 clear hS1
 simp only [Act.put, uA, uB, uC]
 refine rnA 3 10 (.string ⟨(x1).toArray⟩) (fun W hW => ex_scatv W 9 9 _ _ rfl [112, 97, 103, 101, 115, 32] i1 x1 l1.out y1.out rfl rfl) hS.out ?_
 simp only [Act.put, uA, uB, uC]
 refine rn_one (i := 6) (dst := some 13) rfl (by kernel_rfl) rfl rfl (fun K hK => ?_)
 refine ow_call 48 _ _ rfl Tryz.func48 (by kernel_rfl) (by kernel_rfl) [.int .i64 cache] rfl (c2.out _) ?_
 rintro e u2 ⟨rfl, k1⟩
 have hS1 : Hd ((fun W : World => KZ w1 W) u2) := ⟨hS.out.th k1⟩
 refine ⟨_, rfl, hK _ _ (fun _ => hS1.out) ?_⟩
 clear hK K hS k1
 have hS := hS1
 clear hS1
 simp only [Act.put, uA, uB, uC]
 refine rnA 7 14 (.string ⟨(x2).toArray⟩) (fun W hW => ex_scatv W 9 9 _ _ rfl [99, 97, 99, 104, 101, 32] i2 x2 l2.out y2.out rfl rfl) hS.out ?_
 simp only [Act.put, uA, uB, uC]
 refine rn_one (i := 11) (dst := some 18) rfl (by kernel_rfl) rfl rfl (fun K hK => ?_)
 refine ow_call 48 _ _ rfl Tryz.func48 (by kernel_rfl) (by kernel_rfl) [.int .i64 cap] rfl (c3.out _) ?_
 rintro e u3 ⟨rfl, k1⟩
 have hS1 : Hd ((fun W : World => KZ w1 W) u3) := ⟨hS.out.th k1⟩
 refine ⟨_, rfl, hK _ _ (fun _ => hS1.out) ?_⟩
 clear hK K hS k1
 have hS := hS1
 clear hS1
 simp only [Act.put, uA, uB, uC]
 refine rnA 12 19 (.string ⟨(x3).toArray⟩) (fun W hW => ex_scatv W 9 9 _ _ rfl [99, 97, 112, 32] i3 x3 l3.out y3.out rfl rfl) hS.out ?_
 simp only [Act.put, uA, uB, uC]
 refine rn_one (i := 13) (dst := some 20) rfl (by kernel_rfl) rfl rfl (fun K hK => ?_)
 refine ow_slit3 _ _ _ rfl x1 x2 x3 rfl rfl rfl ?_
 have hT0 : Hd (Tp w1.heap.size w1 (u3.alloc (.cells #[.string ⟨x1.toArray⟩, .string ⟨x2.toArray⟩, .string ⟨x3.toArray⟩] 9)) (.slice (some ⟨u3.heap.size, 0, none⟩) 3 3) (tl3 pages cache cap ++ (fl.take 0).map ftl)) := ⟨⟨by rw [ht3.out]; exact Or.new3 u3 x1 x2 x3 _ hS.out.size, hS.out.alloc _⟩⟩
 have hS1 : Hd ((fun W : World => KZ w1 W) (u3.alloc (.cells #[.string ⟨x1.toArray⟩, .string ⟨x2.toArray⟩, .string ⟨x3.toArray⟩] 9))) := ⟨hS.out.alloc _⟩
 refine hK _ _ (fun _ => hS1.out) ?_
 clear hK K hS y1 y2 y3 l1 l2 l3 c1 c2 c3
 have hS := hS1
 clear hS1
 simp only [Act.put, uA, uB, uC]
 refine rnA 14 3 (.slice (some ⟨u3.heap.size, 0, none⟩) 3 3) (fun W hW => ex_assign W _ _ rfl rfl) hS.out ?_; simp only [Act.put, uA, uB, uC]
 refine rn_done (by kernel_rfl) ?_ _
 clear hS
 go_wp2_with fail
 go_loopw [4, 3] (fun v4 v3 wr => ∃ k : Nat, v4 = .int .i64 k ∧ k ≤ nf ∧ Hd (Tp w1.heap.size w1 wr v3 (tl3 pages cache cap ++ (fl.take k).map ftl))) (fun v4 _ _ => nf - (intOf v4).toNat)
 case atStart => exact ⟨0, rfl, Nat.zero_le _, hT0⟩
 case round =>
  clear hT0
  obtain ⟨k, rfl, hk, HT⟩ := hrel
  obtain ⟨d0, d1, d2, d3, d4, d5⟩ := hbx.out wr HT.out.kp
  by_cases h1 : k < nf
  ·have hltI : (k : Int) < (nf : Int) := by omega
   have hkb : (k : Int) + 1 ≤ 1000001 := by omega
   obtain ⟨x, hx⟩ : ∃ x, fl[k]? = some x := ⟨_, List.getElem?_eq_getElem (by rw [hnf.out]; exact h1)⟩
   obtain ⟨g, o, rfl, hr⟩ := (HF.out.keep HT.out.kp).row hx
   have hfb := hfl.out k x hx
   have hmt := Hd.mk (map_take (f := ftl) hx)
   obtain ⟨s5, hs5⟩ : ∃ l, Hd (ftl x = l) := ⟨_, ⟨rfl⟩⟩
   obtain ⟨f, t, m⟩ := x
   simp only at hr hfb
   have hr := Hd.mk hr
   clear hx
   have z1 : Hd (IntKind.i64.wrap f = f) := ⟨w64 (by omega)⟩
   have z2 : Hd (IntKind.i64.wrap t = t) := ⟨w64 (by omega)⟩
   have b1 : 0 ≤ f ∧ f ≤ 1000000 := by omega
   have b2 : 0 ≤ t ∧ t ≤ 1000000 := by omega
   have b3 : 0 ≤ m ∧ m ≤ 1000000 := by omega
   have c1 := num_b b1
   have c2 := num_b b2
   have c3 := num_b b3
   have q1 := itoa_b b1
   have q2 := itoa_b b2
   have q3 := itoa_b b3
   have p3 := pkI_three f t m
   have e5 : ftl ⟨f, t, m⟩ = [102, 111, 108, 100] ++ pkI [f, t, m] := rfl
   obtain ⟨i1, hi1⟩ : ∃ x, Lib.itoa f = x := ⟨_, rfl⟩
   obtain ⟨i2, hi2⟩ : ∃ x, Lib.itoa t = x := ⟨_, rfl⟩
   obtain ⟨i3, hi3⟩ : ∃ x, Lib.itoa m = x := ⟨_, rfl⟩
   rw [hi1] at c1 q1 p3
   rw [hi2] at c2 q2 p3
   rw [hi3] at c3 q3 p3
   obtain ⟨s1, y1⟩ : ∃ l, Hd (l = [102, 111, 108, 100, 32] ++ i1) := ⟨_, ⟨rfl⟩⟩
   obtain ⟨s2, y2⟩ : ∃ l, Hd (l = s1 ++ [32]) := ⟨_, ⟨rfl⟩⟩
   obtain ⟨s3, y3⟩ : ∃ l, Hd (l = s2 ++ i2) := ⟨_, ⟨rfl⟩⟩
   obtain ⟨s4, y4⟩ : ∃ l, Hd (l = s3 ++ [32]) := ⟨_, ⟨rfl⟩⟩
   have y5 : Hd (s5 = s4 ++ i3) := ⟨by rw [← hs5.out, e5, p3, y4.out, y3.out, y2.out, y1.out]; simp⟩
   have m1 : s1.length ≤ 30 := by rw [y1.out]; simp only [List.length_append, List.length_cons, List.length_nil]; omega
   have m2 : s2.length ≤ 31 := by rw [y2.out]; simp only [List.length_append, List.length_cons, List.length_nil]; omega
   have m3 : s3.length ≤ 60 := by rw [y3.out]; simp only [List.length_append]; omega
   have m4 : s4.length ≤ 61 := by rw [y4.out]; simp only [List.length_append, List.length_cons, List.length_nil]; omega
   have l1 : Hd (([102, 111, 108, 100, 32] : List UInt8).length + i1.length ≤ 9000000000000000000) := ⟨by simp only [List.length_cons, List.length_nil]; omega⟩
   have l2 : Hd (s1.length + ([32] : List UInt8).length ≤ 9000000000000000000) := ⟨by simp only [List.length_cons, List.length_nil]; omega⟩
   have l3 : Hd (s2.length + i2.length ≤ 9000000000000000000) := ⟨by omega⟩
   have l4 : Hd (s3.length + ([32] : List UInt8).length ≤ 9000000000000000000) := ⟨by simp only [List.length_cons, List.length_nil]; omega⟩
   have l5 : Hd (s4.length + i3.length ≤ 9000000000000000000) := ⟨by omega⟩
   clear m1 m2 m3 m4 q1 q2 q3 p3 e5 hi1 hi2 hi3 b1 b2 b3 hfb
   obtain ⟨w4, hw4⟩ : ∃ w4, wr.alloc (.cells #[.int .i32 f, .int .i32 t, .int .i64 m] 100) = w4 := ⟨_, rfl⟩
   have k4 : KZ wr w4 := by rw [← hw4]; exact (Kp.refl _ wr).alloc _
   have dx0 : ∀ W, KZ w4 W → W.cell? ⟨wr.heap.size, 0, none⟩ = some (.int .i32 f) ∧ W.cell? ⟨wr.heap.size, 1, none⟩ = some (.int .i32 t) ∧ W.cell? ⟨wr.heap.size, 2, none⟩ = some (.int .i64 m) := fun W hW => by
    rw [← hw4] at hW
    exact box3 _ _ _ _ _ _ hW
   obtain ⟨C, hC⟩ : ∃ C, Hd (wr.heap.size = C) := ⟨_, ⟨rfl⟩⟩
   have hw4 := Hd.mk hw4
   have KT := Hd.mk (HT.out.kp.th k4)
   have RT := Hd.mk (HT.out.row.keep k4)
   clear k4
   rw [hC.out] at dx0
   have dx := Hd.mk dx0
   clear dx0
   go_wp2_with (first | (with_reducible refine wl_load_mid rfl 100 (.tmp 33) rfl g (o + k * 3) rfl [.int .i32 f, .int .i32 t, .int .i64 m] hr.out Tryz.underlying100 rfl (by kernel_rfl) ?_) | (with_reducible refine wl_alloc rfl 100 rfl [.int .i32 0, .int .i32 0, .int .i64 0] (zero100 _) ?_) | ((with_reducible refine wl_store_new rfl 100 (.tmp 5) (.tmp 34) rfl [.int .i32 0, .int .i32 0, .int .i64 0] [.int .i32 f, .int .i32 t, .int .i64 m] rfl rfl (by kernel_rfl) rfl (by simp [Value.oneCell']) ?_)))
   rw [show wr.alloc (.cells ([.int .i32 f, .int .i32 t, .int .i64 m] : List Value).toArray 100) = w4 from hw4.out, hC.out]
   have hS : Hd ((fun W : World => KZ w4 W) w4.drew) := ⟨(Kp.refl _ _).drew⟩
   clear d0 d1 d2 d3 d4 d5
   refine rn_begin (fun W : World => KZ w4 W) (List.range 18) (by kernel_rfl) ?_
   refine rnT [18, 19] 0 35 (u3) (rnM rfl rfl) hS.out ?_
   refine rnT [2, 3, 4, 5, 6, 10, 11, 12, 15, 16, 17, 18, 19] 1 36 (.pointer (some ⟨C, 0, none⟩)) (erF 100 0 _ rfl C 0 0 0 0 Tryz.underlying100 rfl) hS.out ?_
   refine rnT [3, 4, 5, 6, 10, 11, 12, 15, 16, 17, 18, 19] 2 37 (.int .i32 f) (fun W hW => ex_load W 21 _ _ rfl ⟨C, 0, none⟩ U21 rfl rfl ((dx.out W hW).1)) hS.out ?_
   simp only [Act.put, uA, uB, uC]
   refine rnT [4, 5, 6, 10, 11, 12, 15, 16, 17, 18, 19] 3 38 (.int .i64 (f)) (fun W hW => ex_convz W 21 3 _ rfl (by kernel_rfl) .i64 U3 .i32 f f rfl z1.out) hS.out ?_
   refine rnT [8, 9, 10, 11, 12, 15, 16, 17, 18, 19] 7 42 (.pointer (some ⟨C, 1, none⟩)) (erF 100 1 _ rfl C 0 0 1 1 Tryz.underlying100 rfl) hS.out ?_
   refine rnT [9, 10, 11, 12, 15, 16, 17, 18, 19] 8 43 (.int .i32 t) (fun W hW => ex_load W 21 _ _ rfl ⟨C, 1, none⟩ U21 rfl rfl ((dx.out W hW).2.1)) hS.out ?_
   simp only [Act.put, uA, uB, uC]
   refine rnT [10, 11, 12, 15, 16, 17, 18, 19] 9 44 (.int .i64 (t)) (fun W hW => ex_convz W 21 3 _ rfl (by kernel_rfl) .i64 U3 .i32 t t rfl z2.out) hS.out ?_
   refine rnT [14, 15, 16, 17, 18, 19] 13 48 (.pointer (some ⟨C, 2, none⟩)) (erF 100 2 _ rfl C 0 0 2 2 Tryz.underlying100 rfl) hS.out ?_
   refine rnT [15, 16, 17, 18, 19] 14 49 (.int .i64 (m)) (fun W hW => ex_load W 3 _ _ rfl ⟨C, 2, none⟩ U3 rfl rfl ((dx.out W hW).2.2)) hS.out ?_
   simp only [Act.put, uA, uB, uC]
   generalize w4.drew = u0 at *
   refine rn_one (i := 4) (dst := some 39) rfl (by kernel_rfl) rfl rfl (fun K hK => ?_)
   refine ow_call 48 _ _ rfl Tryz.func48 (by kernel_rfl) (by kernel_rfl) [.int .i64 f] rfl (c1.out _) ?_
   rintro e u1 ⟨rfl, k1⟩
   have hS1 : Hd ((fun W : World => KZ w4 W) u1) := ⟨hS.out.th k1⟩
   refine ⟨_, rfl, hK _ _ (fun _ => hS1.out) ?_⟩
   clear hK K hS k1
   have hS := hS1
   clear hS1
   simp only [Act.put, uA, uB, uC]
   refine rnT [6, 11, 12, 16, 17, 18, 19] 5 40 (.string ⟨(s1).toArray⟩) (fun W hW => ex_scatv W 9 9 _ _ rfl [102, 111, 108, 100, 32] i1 s1 l1.out y1.out rfl rfl) hS.out ?_
   refine rnT [11, 12, 16, 17, 18, 19] 6 41 (.string ⟨(s2).toArray⟩) (fun W hW => ex_scatv W 9 9 _ _ rfl s1 [32] s2 l2.out y2.out rfl rfl) hS.out ?_
   simp only [Act.put, uA, uB, uC]
   refine rn_one (i := 10) (dst := some 45) rfl (by kernel_rfl) rfl rfl (fun K hK => ?_)
   refine ow_call 48 _ _ rfl Tryz.func48 (by kernel_rfl) (by kernel_rfl) [.int .i64 t] rfl (c2.out _) ?_
   rintro e u2 ⟨rfl, k1⟩
   have hS1 : Hd ((fun W : World => KZ w4 W) u2) := ⟨hS.out.th k1⟩
   refine ⟨_, rfl, hK _ _ (fun _ => hS1.out) ?_⟩
   clear hK K hS k1
   have hS := hS1
   clear hS1
   simp only [Act.put, uA, uB, uC]
   refine rnT [12, 16, 17, 18, 19] 11 46 (.string ⟨(s3).toArray⟩) (fun W hW => ex_scatv W 9 9 _ _ rfl s2 i2 s3 l3.out y3.out rfl rfl) hS.out ?_
   refine rnT [16, 17, 18, 19] 12 47 (.string ⟨(s4).toArray⟩) (fun W hW => ex_scatv W 9 9 _ _ rfl s3 [32] s4 l4.out y4.out rfl rfl) hS.out ?_
   simp only [Act.put, uA, uB, uC]
   refine rn_one (i := 15) (dst := some 50) rfl (by kernel_rfl) rfl rfl (fun K hK => ?_)
   refine ow_call 48 _ _ rfl Tryz.func48 (by kernel_rfl) (by kernel_rfl) [.int .i64 m] rfl (c3.out _) ?_
   rintro e u8 ⟨rfl, k1⟩
   have hS1 : Hd ((fun W : World => KZ w4 W) u8) := ⟨hS.out.th k1⟩
   refine ⟨_, rfl, hK _ _ (fun _ => hS1.out) ?_⟩
   clear hK K hS k1
   have hS := hS1
   clear hS1
   simp only [Act.put, uA, uB, uC]
   refine rnT [17, 18, 19] 16 51 (.string ⟨(s5).toArray⟩) (fun W hW => ex_scatv W 9 9 _ _ rfl s4 i3 s5 l5.out y5.out rfl rfl) hS.out ?_
   simp only [Act.put, uA, uB, uC]
   have hu3 : Hd (KZ w4 (u8.alloc (.cells #[.string ⟨s5.toArray⟩] 9))) := ⟨hS.out.alloc _⟩
   have KU := Hd.mk (KT.out.th hu3.out)
   have RU := Hd.mk (RT.out.keep hu3.out)
   refine rn_one (i := 17) (dst := some 52) rfl (by kernel_rfl) rfl rfl (fun K hK => ?_)
   refine ow_slit1 _ rfl s5 rfl ?_
   refine hK _ _ (fun _ => hu3.out) ?_
   clear hK K hS
   simp only [Act.put, uA, uB, uC]
   have hnn : Hd ((tl3 pages cache cap ++ (fl.take k).map ftl).length ≤ 1000000000) := ⟨by
    have := List.length_take_le k fl
    simp only [tl3, List.length_append, List.length_cons, List.length_nil, List.length_map]
    omega⟩
   refine rn_one (i := 18) (dst := some 53) rfl (by kernel_rfl) rfl rfl (fun K hK => ?_)
   refine ow_or (.tmp 35) (.tmp 52) 48 rfl 9 1 16 U48 info9b rfl (by decide) (by decide) u3 _ _ rfl RU.out KU.out.size u8.heap.size 1 [.string ⟨s5.toArray⟩] rfl rfl (one_new _ _ _) (by simp [Value.oneCell']) hnn.out ?_
   intro v5 w5 ho hbl
   have ho := Hd.mk ho
   have K5 := Hd.mk (KU.out.andThen (Kp.of_below' hbl) (fun i hi e => by omega))
   refine hK _ _ (fun h => (by cases h)) ?_
   clear hK K hbl hu3
   simp only [Act.put, uA, uB, uC]
   refine rn_one (i := 19) (dst := some 3) rfl (by kernel_rfl) rfl rfl (fun K hK => ?_)
   refine ow_run (ex_assign _ _ _ rfl rfl) ?_
   refine hK _ _ (fun h => (by cases h)) ?_
   clear hK K
   simp only [Act.put, uA, uB, uC]
   refine rn_done (by kernel_rfl) ?_ _
   go_wp2_with fail
   exact ⟨⟨k + 1, by go_num, by omega, ⟨⟨by
    rw [hmt.out, hs5.out, ← List.append_assoc, wcl_app, List.length_append]
    exact ho.out, K5.out⟩⟩⟩, by simp [intOf]; omega⟩
  ·have hltI : ¬ (k : Int) < (nf : Int) := by omega
   have HT : Hd (Tp w1.heap.size w1 wr u3 (tl3 pages cache cap ++ fl.map ftl ++ (ss.take 0).map stl)) := ⟨HT.out.eq (by rw [List.take_of_length_le (by rw [hnf.out]; omega)]; simp)⟩
   obtain ⟨hd, hhd⟩ : ∃ l, Hd (tl3 pages cache cap ++ fl.map ftl = l) := ⟨_, ⟨rfl⟩⟩
   rw [hhd.out] at HT
   have hdl : Hd (hd.length ≤ 20) := ⟨by
    rw [← hhd.out]
    have := hnf.out
    simp only [tl3, List.length_append, List.length_cons, List.length_nil, List.length_map]
    omega⟩
   go_wp2_with fail
   clear d0 d1 d2 d3 d4 d5
   go_loopw [6, 3] (fun v6 v3 wr => ∃ i : Nat, v6 = .int .i64 i ∧ i ≤ ns ∧ Hd (Tp w1.heap.size w1 wr v3 (hd ++ (ss.take i).map stl))) (fun v6 _ _ => ns - (intOf v6).toNat)
   case atStart => exact ⟨0, rfl, Nat.zero_le _, HT⟩
   case round =>
    clear HT
    obtain ⟨i, rfl, hi, HI⟩ := hrel
    obtain ⟨d0, d1, d2, d3, d4, d5⟩ := hbx.out _ HI.out.kp
    by_cases h2 : i < ns
    ·have hiI : (i : Int) < (ns : Int) := by omega
     have hib : (i : Int) + 1 ≤ 1000001 := by omega
     obtain ⟨x, hx⟩ : ∃ x, ss[i]? = some x := ⟨_, List.getElem?_eq_getElem (by rw [hns.out]; exact h2)⟩
     have hxl := hss.out i x hx
     have hmt := Hd.mk (map_take (f := stl) hx)
     obtain ⟨sl, hsl⟩ : ∃ l, Hd (stl x = l) := ⟨_, ⟨rfl⟩⟩
     have e5 : stl x = [115, 116, 111, 112, 32] ++ quote x false := rfl
     have ql := quote_length x false
     have hx24 : x.length < 100000000 := by omega
     have hqt : Hd (∀ {u : World} {v : Value}, Bs u v (ints x) → Calls Tryz.prog 18 #[v, .bool false] u fun e w' => e = .returned (.string ⟨(quote x false).toArray⟩) ∧ KZ u w') := ⟨fun {u v} hB => rquote_at hB false hx24⟩
     obtain ⟨qx, hqx⟩ : ∃ l, quote x false = l := ⟨_, rfl⟩
     rw [hqx] at hqt e5 ql
     have y1 : Hd (sl = [115, 116, 111, 112, 32] ++ qx) := ⟨by rw [← hsl.out, e5]⟩
     have l1 : Hd (([115, 116, 111, 112, 32] : List UInt8).length + qx.length ≤ 9000000000000000000) := ⟨by simp only [List.length_cons, List.length_nil]; omega⟩
     obtain ⟨g, o, rfl, _⟩ := (HS.out.keep HI.out.kp).cell hx
     have dx : Hd (∀ W, KZ w1 W → W.cell? ⟨g, o + i, none⟩ = some (.string ⟨x.toArray⟩)) := ⟨fun W hW => by
      obtain ⟨g', o', e', hc⟩ := (HS.out.keep hW).cell hx
      injection e' with e'
      injection e' with e1 e2 e3
      subst e1; subst e2
      exact hc⟩
     clear hx hx24 hqx e5 ql hxl
     have c1 := dx.out wr HI.out.kp
     have hnn : Hd ((hd ++ (ss.take i).map stl).length ≤ 1000000000) := ⟨by
      have := List.length_take_le i ss
      have := hdl.out
      simp only [List.length_append, List.length_map]
      omega⟩
     go_wp2_with (first | ((with_reducible refine wl_tobytes rfl 9 22 5 (.tmp 68) rfl U9 U22 U5 x rfl ?_); intro vB w8 hB k8 _ _; have hB := Hd.mk hB; have k8' := Hd.mk k8; clear k8) | (go_at_call 18; refine (hqt.out hB.out).mono ?_; rintro e w9 ⟨rfl, k9⟩; have K9 := Hd.mk (k8'.out.th (k9.th (kp_alloc w9 (.cells #[.string ⟨sl.toArray⟩] 9)))); clear k9; have KU := Hd.mk (HI.out.kp.th K9.out); have RU := Hd.mk (HI.out.row.keep K9.out); dsimp only) | (with_reducible refine wl_run rfl (ex_scatv _ 9 9 (.const (.string ⟨#[115, 116, 111, 112, 32]⟩)) (.tmp 70) rfl [115, 116, 111, 112, 32] qx sl l1.out y1.out rfl rfl) ?_) | ((with_reducible refine wl_or rfl (.tmp 62) (.tmp 72) 48 rfl 9 1 16 U48 info9b rfl (by decide) (by decide) _ _ _ rfl RU.out KU.out.size w9.heap.size 1 [.string ⟨sl.toArray⟩] rfl rfl (one_new _ _ _) (by simp [Value.oneCell']) hnn.out ?_); intro v5 w5 ho hbl; have ho := Hd.mk ho; have K5 := Hd.mk (KU.out.andThen (Kp.of_below' hbl) (fun i hi e => by omega)); clear hbl))
     exact ⟨⟨i + 1, by go_num, by omega, ⟨⟨by
      rw [hmt.out, hsl.out, ← List.append_assoc, wcl_app, List.length_append]
      exact ho.out, K5.out⟩⟩⟩, by simp [intOf]; omega⟩
    ·have hiI : ¬ (i : Int) < (ns : Int) := by omega
     go_wp2_with fail
     go_ret
     refine ⟨⟨_, rfl, ?_⟩, k01.out.th HI.out.kp⟩
     have h3 := HI.out.row
     rw [List.take_of_length_le (by rw [hns.out]; omega), ← hhd.out, ← ntl.out] at h3
     exact h3.mono hsz1.out
end Go.Proofs.YtkcechpaeilaeaaGreatDoor
namespace Go.Proofs.YtkcechpaeilaeaaGreatDoor
open Go.RowKit
set_option maxRecDepth 100000
def ltext (L : List (List UInt8)) : List UInt8 := L.flatMap (fun l => l ++ [10])
theorem Or.wos {b : Nat} {w : World} {v : Value} {l : List (List UInt8)} (h : Or b 9 1 w v l.length (wcl l)) : Wos w v l := by
 obtain ⟨A, c, rfl, hc⟩ := h.slice
 refine ⟨A, c, rfl, ?_⟩
 rcases Nat.eq_zero_or_pos l.length with h0 | h0
 ·exact .inl (List.length_eq_zero_iff.1 h0)
 ·obtain ⟨g, rfl, hr, _⟩ := h.at h0
  exact .inr ⟨g, 0, rfl, hr⟩
end Go.Proofs.YtkcechpaeilaeaaGreatDoor
namespace Go.Proofs.YtkcechpaeilaeaaGreatDoor
open Go.RowKit
set_option maxRecDepth 100000
end Go.Proofs.YtkcechpaeilaeaaGreatDoor
