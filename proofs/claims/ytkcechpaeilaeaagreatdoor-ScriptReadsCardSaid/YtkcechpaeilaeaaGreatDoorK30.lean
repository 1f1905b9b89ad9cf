/- Joined out of: G8 R21 R22 Cn Sh2. -/
import Derived.Test.YtkcechpaeilaeaaGreatDoorK14
import Derived.Laws.StructEq
import Derived.ChangeKeysEq
import Derived.Test.YtkcechpaeilaeaaGreatDoorK25
import Derived.Test.YtkcechpaeilaeaaGreatDoorK26
import Derived.Test.YtkcechpaeilaeaaGreatDoorK27
import Derived.Test.YtkcechpaeilaeaaGreatDoorK29
import Derived.Test.YtkcechpaeilaeaaGreatDoorK2
set_option linter.unusedVariables false
set_option linter.unusedSimpArgs false
namespace Go.Proofs.YtkcechpaeilaeaaGreatDoor
open Go.RowKit
set_option maxRecDepth 20000
theorem scl_get : ∀ (l : List (Nat × List UInt8)) (k : Nat) (x : Nat × List UInt8), l[k]? = some x → (scl l)[k * 2]? = some (.int .i64 (x.1 : Int)) ∧ (scl l)[k * 2 + 1]? = some (.string ⟨x.2.toArray⟩)
 | y :: l, 0, x, h => by
  injection h with h
  subst h
  exact ⟨rfl, rfl⟩
 | y :: l, k + 1, x, h => by
  have ih := scl_get l k x h
  have e : scl (y :: l) = [.int .i64 (y.1 : Int), .string ⟨y.2.toArray⟩] ++ scl l := rfl
  rw [e, List.getElem?_append_right (by simp only [List.length_cons, List.length_nil]; omega), List.getElem?_append_right (by simp only [List.length_cons, List.length_nil]; omega)]
  have e1 : (k + 1) * 2 - [(.int .i64 (y.1 : Int) : Value), .string ⟨y.2.toArray⟩].length = k * 2 := by simp only [List.length_cons, List.length_nil]; omega
  have e2 : (k + 1) * 2 + 1 - [(.int .i64 (y.1 : Int) : Value), .string ⟨y.2.toArray⟩].length = k * 2 + 1 := by simp only [List.length_cons, List.length_nil]; omega
  rw [e1, e2]
  exact ih
def Rw (w : World) (v : Value) (l : List (Nat × List UInt8)) : Prop := ∃ A c, v = .slice A l.length c ∧ (l = [] ∨ ∃ g o, A = some ⟨g, o, none⟩ ∧ w.rangeAt g o (scl l))
end Go.Proofs.YtkcechpaeilaeaaGreatDoor
namespace Go.Proofs.YtkcechpaeilaeaaGreatDoor
open Go Go.RowKit
theorem read_at {b : Nat} {w : World} {s : Sc} {F S X : Option Addr} {cF cS cA : Nat} {cs : List Value} (k : Nat) (hs : scOk s) (hR : Rz b w s (.slice F s.fl.length cF) (.slice S s.ss.length cS) (.slice X s.ac.length cA) cs) (hb : b ≤ w.heap.size) (l : List UInt8) (hl : l.length < 70000) :
  Calls Tryz.prog 77 #[.agg #[.int .i64 s.pages, .int .i64 s.cache, .slice F s.fl.length cF, .slice S s.ss.length cS, .int .i64 s.cap, .slice X s.ac.length cA], .int .i64 (k : Int), .string ⟨l.toArray⟩] w fun e w' => ReR b k s l w w' e := by
 by_cases h3 : 3 ≤ k
 rotate_left
 ·have : k = 0 ∨ k = 1 ∨ k = 2 := by omega
  rcases this with rfl | rfl | rfl
  ·exact read_head0 hs hR l hl
  ·exact read_head1 hs hR l hl
  ·exact read_head2 hs hR l hl
 by_cases hF : wd l = [102, 111, 108, 100] ∧ s.ss = [] ∧ s.ac = []
 ·exact read_fold h3 hs hR hb hF.2.1 hF.2.2 l hl hF.1
 by_cases hS : wd l = [115, 116, 111, 112] ∧ s.ac = []
 ·exact read_stop h3 hs hR hb hS.2 l hl hS.1
 exact read_act h3 hs hR hb l hl hF hS
theorem ex_extract {P : Program} {o : Oper} {a : Act} (w : World) (x : Operand) (i : Nat) (ho : o.op = .extract x i) (vs : List Value) (hx : a.eval x = .tuple vs.toArray) (v : Value) (hv : vs[i]? = some v) : (execOp a.eval o).run P w = .ok (.value v) w := by
 unfold execOp
 simp [ho, hx, Instr.extract, Sem.run_bind, hv]
theorem zero53 (w : World) : (zeroValue 53).run Tryz.prog w = .ok (.agg Z6.toArray) w := by kernel_rfl
theorem ex_z53 {o : Oper} {a : Act} (w : World) (ho : o.op = .build 53 #[]) : (execOp a.eval o).run Tryz.prog w = .ok (.value (.agg Z6.toArray)) w :=
 ex_build w 53 [] ho Tryz.underlying53 Z6 (zero53 w) #[(0, 1), (1, 1), (2, 3), (5, 1)] (by kernel_rfl) [] rfl Z6 rfl
theorem results_3t {fn : Func} {p q u : Tmp} (h : fn.results = #[.cell p 53, .tmp q, .tmp u]) (tmps : Array Value) (w : World) (Z : Nat) (cs : List Value) (n c : Value) (hp : tmps.getD p undef = .pointer (some ⟨Z, 0, none⟩)) (hq : tmps.getD q undef = n) (hu : tmps.getD u undef = c)
  (hr : w.rangeAt Z 0 cs) (hl : cs.length = 6) : (results fn tmps).run Tryz.prog w = .ok (.tuple #[.agg cs.toArray, n, c]) w := by
 have e1 := run_loadVar_mid w Z 0 53 cs _ hr Tryz.underlying53 rfl (by rw [hl]; kernel_rfl)
 simp only [results, h]
 simp at hp hq hu
 simp [Sem.run_bind, hp, hq, hu, asAddr, e1, Result.andThen]
theorem Rz.keepD {b D : Nat} {w w' : World} {s : Sc} {VF VS VA : Value} {cs vs : List Value} (h : Rz b w s VF VS VA cs) (hD : Blk w D vs 53) (hu : ∀ n : Int, Value.int .u8 n ∉ vs) (hk : Kp (· = D) w w') : Rz b w' s VF VS VA cs := by
 have ne : ∀ {e : TypeId} {size n : Nat} {v : Value} {xs : List Value}, e ≠ 53 → Or b e size w v n xs → Or b e size w' v n xs := fun he g => g.keepS hk (fun k hk' e => by
  subst e
  obtain ⟨cur, hc⟩ := g.block hk'
  have e2 := hc.symm.trans hD
  injection e2 with e2
  injection e2 with _ e2 _
  exact he e2)
 have hb : ∀ {v : Value} {l : List Int}, BsF b w v l → BsF b w' v l := fun g => ⟨bs_keepX g.bs hk (fun k j u e hc => by
  subst e
  rw [Lib.cell_of_heap hD] at hc
  exact hu u (by
   have := Array.mem_of_getElem? hc
   simpa using this)), g.fr⟩
 exact ⟨ne (by decide) h.rf, ne (by decide) h.rs, ne (by decide) h.ra, fun i a ha => by
  obtain ⟨At, ct, Ap, cp, h1, h2, h3⟩ := h.acts i a ha
  exact ⟨At, ct, Ap, cp, h1, hb h2, hb h3⟩, h.one, h.zf, h.zs, h.za⟩
theorem splice6 {old vs : List Value} (h1 : old.length = 6) (h2 : vs.length = 6) : splice old 0 vs = vs := by
 unfold splice
 simp [h1, h2]
structure Ps (B : Nat) (w wr : World) (g : Nat) (L : List (Nat × List UInt8)) (k : Nat) (s : Sc) (F S X : Option Addr) (cF cS cA : Nat) (cs : List Value) : Prop where
 z2 : Blk wr B Z6 53
 z5 : Blk wr (B + 1) (r6 s F cF S cS X cA) 53
 rz : Rz (B + 2) wr s (.slice F s.fl.length cF) (.slice S s.ss.length cS) (.slice X s.ac.length cA) cs
 px : Pfx L k s
 ln : wr.rangeAt g 0 (scl L)
 gl : B + 2 ≤ g
 kp : KZ w wr
 sz : w.heap.size = B
 le : B + 2 ≤ wr.heap.size
section
variable {B g k : Nat} {w wr : World} {L : List (Nat × List UInt8)} {s : Sc} {F S X : Option Addr} {cF cS cA : Nat} {cs : List Value}
theorem Ps.keep {w' : World} (h : Ps B w wr g L k s F S X cF cS cA cs) (hk : KZ wr w') : Ps B w w' g L k s F S X cF cS cA cs :=
 ⟨hk.keeps h.z2 id, hk.keeps h.z5 id, h.rz.keep hk, h.px, rangez h.ln hk, h.gl, h.kp.th hk, h.sz, Nat.le_trans h.le hk.size⟩
theorem Ps.start (w W : World) (hk : KZ ((w.alloc (.cells Z6.toArray 53)).alloc (.cells #[.int .i64 8, .int .i64 2, .slice none 0 0, .slice none 0 0, .int .i64 1, .slice none 0 0] 53)) W) (hl : W.rangeAt g 0 (scl L)) (hg : w.heap.size + 2 ≤ g) : Ps w.heap.size w W g L 0 s0 none none none 0 0 0 [] := by
 have b2 := Blk.new (w.alloc (.cells Z6.toArray 53)) [.int .i64 8, .int .i64 2, .slice none 0 0, .slice none 0 0, .int .i64 1, .slice none 0 0] 53
 rw [size_alloc] at b2
 refine ⟨hk.keeps ((Blk.new w Z6 53).alloc _) id, hk.keeps b2 id, ⟨Or.nil _ _ _ _, Or.nil _ _ _ _, Or.nil _ _ _ _, fun i a h => by simp [s0] at h, fun u h => by simp at h, fun _ => rfl, fun _ => rfl, fun _ => rfl⟩, .start, hl, hg, (((Kp.refl _ w).alloc _).alloc _).th hk, rfl, ?_⟩
 have := hk.size
 simp only [size_alloc] at this
 omega
theorem Ps.cell (h : Ps B w wr g L k s F S X cF cS cA cs) {m : Nat} {l : List UInt8} {j : Nat} (hx : L[j]? = some (m, l)) : wr.cell? ⟨g, j * 2, none⟩ = some (.int .i64 (m : Int)) ∧ wr.cell? ⟨g, j * 2 + 1, none⟩ = some (.string ⟨l.toArray⟩) := by
 obtain ⟨h1, h2⟩ := scl_get L j (m, l) hx
 have e1 := h.ln _ _ h1
 have e2 := h.ln _ _ h2
 rw [Nat.zero_add] at e1 e2
 exact ⟨e1, e2⟩
theorem Ps.glt (h : Ps B w wr g L k s F S X cF cS cA cs) {m : Nat} {l : List UInt8} {j : Nat} (hx : L[j]? = some (m, l)) : g < wr.heap.size := World.block_lt_of_cell? wr _ (h.cell hx).1
theorem row_nu8 {a b c : Int} {F S X : Option Addr} {m n p q r t : Nat} : ∀ z : Int, Value.int .u8 z ∉ ([.int .i64 a, .int .i64 b, .slice F m n, .slice S p q, .int .i64 c, .slice X r t] : List Value) := by
 intro z hz
 simp only [List.mem_cons, List.not_mem_nil, or_false] at hz
 rcases hz with h | h | h | h | h | h <;> cases h
theorem z6_nu8 : ∀ z : Int, Value.int .u8 z ∉ Z6 := row_nu8
theorem Ps.step (h : Ps B w wr g L k s F S X cF cS cA cs) {m : Nat} {l : List UInt8} (hx : L[k]? = some (m, l)) {u2 u3 u4 : World} {D : Nat} (ka : KZ wr u2) (hD : wr.heap.size ≤ D) (hz : Blk u2 D Z6 53) (k3 : Kp (· = D) u2 u3) {s1 : Sc} {F1 S1 X1 : Option Addr} {c1 c2 c3 : Nat} {cs1 : List Value} (h1 : Step k s l s1)
  (hr : Rz (B + 2) u2 s1 (.slice F1 s1.fl.length c1) (.slice S1 s1.ss.length c2) (.slice X1 s1.ac.length c3) cs1) (k4 : Kp (· = B + 1) u3 u4)
  (hb : Blk u4 (B + 1) (splice (r6 s F cF S cS X cA) 0 (r6 s1 F1 c1 S1 c2 X1 c3)) 53) :
  Ps B w u4 g L (k + 1) s1 F1 S1 X1 c1 c2 c3 cs1 := by
 have hle := h.le
 have hgl := h.gl
 have hg := h.glt hx
 rw [splice6 rfl rfl] at hb
 refine ⟨k4.keeps (k3.keeps (ka.keeps h.z2 id) (by omega)) (by omega), hb, (hr.keepD hz z6_nu8 k3).keepS k4 (fun k e => by omega), .more h.px hx h1, fun j v hv => k4.see (k3.see (ka.see (h.ln j v hv) id) (by show ¬ g = D; omega)) (by show ¬ g = B + 1; omega), hgl, ((h.kp.th ka).andThen k3 (fun i hi e => ?_)).andThen k4 (fun i hi e => ?_), h.sz, ?_⟩
 ·have := h.sz; omega
 ·have := h.sz; omega
 ·have := ka.size; have := k3.size; have := k4.size; omega
theorem Ps.bad (h : Ps B w wr g L k s F S X cF cS cA cs) {m : Nat} {l : List UInt8} (hx : L[k]? = some (m, l)) {u2 u3 : World} {D : Nat} (ka : KZ wr u2) (hD : wr.heap.size ≤ D) (k3 : Kp (· = D) u2 u3) :
  Blk u3 B Z6 53 ∧ u3.cell? ⟨g, k * 2, none⟩ = some (.int .i64 (m : Int)) ∧ KZ w u3 := by
 have hle := h.le
 have hg := h.glt hx
 refine ⟨k3.keeps (ka.keeps h.z2 id) (by omega), k3.see (ka.see (h.cell hx).1 id) (by show ¬ g = D; omega), (h.kp.th ka).andThen k3 (fun i hi e => ?_)⟩
 have := h.sz
 omega
end
theorem z6_out {B : Nat} {u u' : World} {w : World} {old vs : List Value} (h1 : old.length = 6) (h2 : vs.length = 6) (hb : Blk u' B (splice old 0 vs) 53) (hk : Kp (· = B) u u') (kp : KZ w u) (sz : w.heap.size = B) : u'.rangeAt B 0 vs ∧ KZ w u' := by
 rw [splice6 h1 h2] at hb
 have := hb.range 0 6
 rw [List.drop_zero, List.take_of_length_le (by omega)] at this
 exact ⟨this, kp.andThen hk (fun i hi e => by omega)⟩
end Go.Proofs.YtkcechpaeilaeaaGreatDoor
namespace Go.Proofs.YtkcechpaeilaeaaGreatDoor
open Go.RowKit
set_option maxRecDepth 100000
set_option maxHeartbeats 2000000 in
theorem rparse_long (t : List UInt8) (ht : 65536 < t.length) (w : World) : Calls Tryz.prog 31 #[.string ⟨t.toArray⟩] w fun e w' => PaR t w w' e := by
 have hI : (65536 : Int) < (t.length : Int) := by omega
 have ht := Hd.mk ht
 go_enter Tryz.func31, Tryz.ntmps31
 go_wp2_with fail
 refine bodyPost_ret (results_3t rfl _ _ w.heap.size Z6 (.int .i64 0) (.int .i64 3) rfl rfl rfl ((Blk.new w Z6 53).range 0 6) rfl) rfl ?_
 exact ⟨⟨z0, none, none, none, 0, 0, 0, 0, 3, rfl, scr_z0 _, .inl ⟨ht.out, rfl, rfl, rfl⟩⟩, (Kp.refl _ w).alloc _⟩
set_option maxHeartbeats 32000000 in
theorem rparse_short (t : List UInt8) (ht : t.length ≤ 65536) (w : World) : Calls Tryz.prog 31 #[.string ⟨t.toArray⟩] w fun e w' => PaR t w w' e := by
 have hI : ¬ (65536 : Int) < (t.length : Int) := by omega
 obtain ⟨L, hL⟩ : ∃ x, Hd (saidS t = x) := ⟨_, ⟨rfl⟩⟩
 obtain ⟨N, hN⟩ : ∃ x, Hd ((lnGo [] t).length = x) := ⟨_, ⟨rfl⟩⟩
 have hN1 : (N : Int) ≤ 65537 := by rw [← hN.out]; have := lnGo_length t []; omega
 have hL1 : (L.length : Int) ≤ 65537 := by
  rw [← hL.out]
  have h1 := saidFrom_length (lnGo [] t) 1
  have h2 := lnGo_length t []
  unfold saidS
  omega
 have hll : Hd (∀ (k : Nat) (m : Nat) (l : List UInt8), L[k]? = some (m, l) → l.length < 70000) := ⟨fun k m l hx => by
  rw [← hL.out] at hx
  have h1 := saidFrom_mem _ _ _ (List.mem_of_getElem? hx)
  have h2 := lnGo_le t [] l h1
  simp at h2
  omega⟩
 have hrl : Hd (∀ u, Calls Tryz.prog 16 #[.string ⟨t.toArray⟩] u fun e w' => (∃ v, e = .returned v ∧ Or u.heap.size 41 2 w' v L.length (scl L)) ∧ KZ u w') := ⟨fun u => by
  rw [← hL.out]
  exact rlines_at t (by omega) u⟩
 have hall : Hd (∀ u, Calls Tryz.prog 58 #[.string ⟨t.toArray⟩] u fun e w' => (∃ A c, e = .returned (.slice A N c)) ∧ KZ u w') := ⟨fun u => by
  refine (all_at t (by omega) u).mono ?_
  rintro e w' ⟨⟨v, rfl, ho⟩, hk⟩
  rw [hN.out] at ho
  obtain ⟨A, c, rfl, _⟩ := ho.slice
  exact ⟨⟨A, c, rfl⟩, hk⟩⟩
 have hbad : Hd (∀ (k : Nat) (sk : Sc) (m : Nat) (l : List UInt8), Pfx L k sk → L[k]? = some (m, l) → (¬ ∃ s1, Step k sk l s1) → POut t L N z0 (m : Int) 270) := ⟨fun k sk m l h1 h2 h3 => .inr ⟨ht, .inl ⟨k, sk, m, l, h1, h2, h3, rfl, rfl, rfl⟩⟩⟩
 have hfew : Hd (∀ sk, Pfx L L.length sk → L.length < 3 → POut t L N z0 ((N : Int) + 1) 270) := ⟨fun sk h1 h2 => .inr ⟨ht, .inr (.inl ⟨sk, h1, h2, rfl, rfl, rfl⟩)⟩⟩
 have hgood : Hd (∀ s, Pfx L L.length s → 3 ≤ L.length → POut t L N s 0 0) := ⟨fun s h1 h2 => .inr ⟨ht, .inr (.inr ⟨h1, h2, rfl, rfl⟩)⟩⟩
 unfold PaR
 rw [hL.out, hN.out]
 clear ht hL hN
 go_enter Tryz.func31, Tryz.ntmps31
 go_wp2_with fail
 refine (hrl.out _).mono ?_
 rintro e w1 ⟨⟨v, rfl, hO⟩, k1⟩
 obtain ⟨A, c, rfl, hcap⟩ := hO.slice
 have hgg : Hd (∃ g, Ps w.heap.size w w1 g L 0 s0 none none none 0 0 0 [] ∧ (0 < L.length → A = some ⟨g, 0, none⟩)) := ⟨by
  by_cases h0 : 0 < L.length
  ·obtain ⟨g, hA, hr, hg1, hg2⟩ := hO.at h0
   simp only [size_alloc] at hg1
   exact ⟨g, Ps.start w w1 k1 hr (by omega), fun _ => hA⟩
  ·have e0 : L = [] := List.eq_nil_of_length_eq_zero (by omega)
   refine ⟨w.heap.size + 2, Ps.start w w1 k1 ?_ (Nat.le_refl _), fun h => absurd h h0⟩
   rw [e0]; intro j u hu; simp [scl] at hu⟩
 obtain ⟨g, hP0, hAg⟩ := hgg.out
 have hP0 := Hd.mk hP0
 have hAg := Hd.mk hAg
 clear hrl hO hgg hcap k1
 go_wp2_with fail
 go_loopw [7] (fun v7 wr => ∃ k : Nat, v7 = .int .i64 k ∧ (k : Int) ≤ L.length ∧ Hd (∃ s F S X cF cS cA cs, Ps w.heap.size w wr g L k s F S X cF cS cA cs)) (fun v7 _ => L.length - (intOf v7).toNat)
 case atStart => exact ⟨0, rfl, by omega, ⟨_, _, _, _, _, _, _, _, hP0.out⟩⟩
 case round =>
  clear hP0
  obtain ⟨k, rfl, hk, ⟨s, F, S, X, cF, cS, cA, cs, hP⟩⟩ := hrel
  replace hP := Hd.mk hP
  by_cases hlt : k < L.length
  ·have hlt2 : (k : Int) < L.length := by omega
   obtain rfl := hAg.out (by omega)
   obtain ⟨⟨m, l⟩, hx⟩ : ∃ x, Hd (L[k]? = some x) := ⟨_, ⟨List.getElem?_eq_getElem hlt⟩⟩
   clear hAg hlt hfew hgood hall
   have hread : Hd (∀ u, KZ wr u → Calls Tryz.prog 77 #[.agg #[.int .i64 s.pages, .int .i64 s.cache, .slice F s.fl.length cF, .slice S s.ss.length cS, .int .i64 s.cap, .slice X s.ac.length cA], .int .i64 (k : Int), .string ⟨l.toArray⟩] u fun e w' => ReR (w.heap.size + 2) k s l u w' e) := ⟨fun u hu => read_at k hP.out.px.inv.ok (hP.out.rz.keep hu) (Nat.le_trans hP.out.le hu.size) l (hll.out k m l hx.out)⟩
   have hc1 := (hP.out.cell hx.out).2
   have hS : Hd ((fun W : World => W.rangeAt (w.heap.size + 1) 0 (r6 s F cF S cS X cA) ∧ W.cell? ⟨g, k * 2 + 1, none⟩ = some (.string ⟨l.toArray⟩)) wr.drew) := ⟨⟨(hP.out.keep (Kp.refl _ wr).drew).z5.range 0 6, (Kp.refl (fun _ => False) wr).drew.see hc1 id⟩⟩
   clear hc1
   go_wp2_with fail
   refine rn_begin (fun W : World => W.rangeAt (w.heap.size + 1) 0 (r6 s F cF S cS X cA) ∧ W.cell? ⟨g, k * 2 + 1, none⟩ = some (.string ⟨l.toArray⟩)) (List.range 14) (by kernel_rfl) ?_
   refine rnA 0 25 (.agg ((r6 s F cF S cS X cA) : List Value).toArray) (fun W hW => ex_load_mid W 53 _ rfl (w.heap.size + 1) 0 rfl _ hW.1 Tryz.underlying53 rfl (by kernel_rfl)) hS.out ?_
   refine rnA 1 26 (.int .i64 ((k : Nat) : Int)) (rnM rfl rfl) hS.out ?_
   refine rnA 2 27 (.slice (some ⟨g, 0, none⟩) L.length c) (rnM rfl rfl) hS.out ?_
   simp only [Act.put, uA, uB, uC]
   refine rnA 3 28 (.int .i64 ((k : Nat) : Int)) (rnM rfl rfl) hS.out ?_
   refine rnA 4 29 (.pointer (some ⟨g, k * 2, none⟩)) (erI 35 41 _ _ rfl 2 k U35 g 0 _ _ (k * 2)) hS.out ?_
   refine rnA 5 30 (.pointer (some ⟨g, k * 2 + 1, none⟩)) (erF 41 1 _ rfl g (k * 2) 0 1 (k * 2 + 1) Tryz.underlying41 rfl) hS.out ?_
   simp only [Act.put, uA, uB, uC]
   refine rnA 6 31 (.string ⟨(l).toArray⟩) (fun W hW => ex_load W 9 _ _ rfl ⟨g, k * 2 + 1, none⟩ U9 rfl rfl (hW.2)) hS.out ?_
   simp only [Act.put, uA, uB, uC]
   refine rn_two (i := 7) (j := 11) (di := some 32) (dj := some 8) rfl rfl (by kernel_rfl) rfl rfl rfl rfl (fun K hK => ?_) (fun K hK => ?_)
   refine ow_call 77 _ _ rfl Tryz.func77 (by kernel_rfl) (by kernel_rfl) [.agg ((r6 s F cF S cS X cA) : List Value).toArray, .int .i64 (k : Int), .string ⟨l.toArray⟩] rfl (hread.out _ (Kp.refl _ wr).drew) ?_
   rintro e u1 ⟨⟨s1, F1, S1, X1, c1, c2, c3, q, rfl, hq1, hq0⟩, k1⟩
   have hS1 : Hd ((fun W : World => W.rangeAt (w.heap.size + 1) 0 (r6 s F cF S cS X cA) ∧ W.cell? ⟨g, k * 2 + 1, none⟩ = some (.string ⟨l.toArray⟩)) u1) := ⟨⟨rangez hS.out.1 k1, k1.see hS.out.2 id⟩⟩
   refine ⟨_, rfl, hK _ _ (fun _ => hS1.out) ?_⟩
   have ka : Hd (KZ wr (u1.alloc (.cells Z6.toArray 53))) := ⟨((Kp.refl _ wr).drew.th k1).alloc _⟩
   have hDle : Hd (wr.heap.size ≤ u1.heap.size) := ⟨((Kp.refl (fun _ => False) wr).drew.th k1).size⟩
   clear hK K hS hread
   have hS := hS1
   clear hS1
   have hq1 : Hd (q = true → Step k s l s1 ∧ ∃ cs1, Rz (w.heap.size + 2) (u1.alloc (.cells Z6.toArray 53)) s1 (.slice F1 s1.fl.length c1) (.slice S1 s1.ss.length c2) (.slice X1 s1.ac.length c3) cs1) := ⟨fun h => by
    obtain ⟨h1, cs1, h2⟩ := hq1 h
    exact ⟨h1, cs1, h2.keep ((Kp.refl _ u1).alloc _)⟩⟩
   replace hq0 := Hd.mk hq0
   have hz := Hd.mk (Blk.new u1 Z6 53)
   have hS2 : Hd ((fun W : World => W.rangeAt (w.heap.size + 1) 0 (r6 s F cF S cS X cA) ∧ W.cell? ⟨g, k * 2 + 1, none⟩ = some (.string ⟨l.toArray⟩)) (u1.alloc (.cells Z6.toArray 53))) := ⟨⟨rangez hS.out.1 ((Kp.refl _ u1).alloc _), ((Kp.refl (fun _ => False) u1).alloc _).see hS.out.2 id⟩⟩
   clear k1
   simp only [Act.put, uA, uB, uC]
   refine rnA 8 24 (.tuple ([.agg ((r6 s1 F1 c1 S1 c2 X1 c3) : List Value).toArray, .bool q] : List Value).toArray) (rnM rfl rfl) hS.out ?_
   refine rnA 9 33 (.agg ((r6 s1 F1 c1 S1 c2 X1 c3) : List Value).toArray) (fun W hW => ex_extract W _ 0 rfl [.agg ((r6 s1 F1 c1 S1 c2 X1 c3) : List Value).toArray, .bool q] rfl _ rfl) hS.out ?_
   refine rnA 10 34 (.bool q) (fun W hW => ex_extract W _ 1 rfl [.agg ((r6 s1 F1 c1 S1 c2 X1 c3) : List Value).toArray, .bool q] rfl _ rfl) hS.out ?_
   simp only [Act.put, uA, uB, uC]
   refine rn_one (i := 11) (dst := some 8) rfl (by kernel_rfl) rfl rfl (fun K hK => ?_)
   refine ow_run (ex_alloc u1 53 rfl Z6 (zero53 u1)) ?_
   refine hK _ _ (fun _ => hS2.out) ?_
   clear hK K hS
   have hS := hS2
   clear hS2
   simp only [Act.put, uA, uB, uC]
   generalize u1.heap.size = D at *
   generalize u1.alloc (.cells Z6.toArray 53) = u2 at *
   have hDn : Hd (¬ (w.heap.size + 1 = D) ∧ ¬ (g = D)) := ⟨by have := hP.out.le; have := hP.out.glt hx.out; have := hDle.out; omega⟩
   refine rn_one (i := 12) (dst := none) rfl (by kernel_rfl) rfl rfl (fun K hK => ?_)
   refine ow_store_mid 53 _ _ rfl D 0 53 Z6 (r6 s1 F1 c1 S1 c2 X1 c3) rfl rfl hz.out (Nat.le_refl 6) (by kernel_rfl) six_one ?_
   intro u3 hb3 hk3 _
   have hS3 : Hd ((fun W : World => W.rangeAt (w.heap.size + 1) 0 (r6 s F cF S cS X cA) ∧ W.cell? ⟨g, k * 2 + 1, none⟩ = some (.string ⟨l.toArray⟩)) u3) := ⟨⟨fun j v hv => hk3.see (hS.out.1 j v hv) (fun e => hDn.out.1 e), hk3.see hS.out.2 (fun e => hDn.out.2 e)⟩⟩
   refine hK _ _ (fun _ => hS3.out) ?_
   clear hK K hS
   replace hb3 := Hd.mk hb3
   replace hk3 := Hd.mk hk3
   simp only [Act.put, uA, uB, uC]
   refine rn_one (i := 13) (dst := some 9) rfl (by kernel_rfl) rfl rfl (fun K hK => ?_)
   refine ow_run (ex_assign _ _ (.bool q) rfl rfl) ?_
   refine hK _ _ (fun _ => hS3.out) ?_
   clear hK K hS3
   simp only [Act.put, uA, uB, uC]
   refine rn_done (by kernel_rfl) ?_ _
   cases q
   ·obtain ⟨z2, cm, kw⟩ := hP.out.bad hx.out ka.out hDle.out hk3.out
    replace z2 := Hd.mk z2
    replace kw := Hd.mk kw
    have hS : Hd ((fun W : World => W.cell? ⟨g, k * 2, none⟩ = some (.int .i64 ((m : Nat) : Int))) u3.drew) := ⟨(Kp.refl (fun _ => False) u3).drew.see cm id⟩
    have z2' := Hd.mk ((Kp.refl (fun _ => False) u3).drew.keeps z2.out id)
    have kw' := Hd.mk (kw.out.drew)
    have hpo := Hd.mk (hbad.out k s m l hP.out.px hx.out (hq0.out rfl))
    have hgB : Hd (¬ g = w.heap.size) := ⟨by have := hP.out.gl; omega⟩
    clear hq1 hq0 hb3 hk3 hz ka hP cm z2 kw
    go_wp2_with fail
    refine rn_begin (fun W : World => W.cell? ⟨g, k * 2, none⟩ = some (.int .i64 ((m : Nat) : Int))) (List.range 9) (by kernel_rfl) ?_
    refine rnA 0 37 (.agg Z6.toArray) (fun W hW => ex_z53 W rfl) hS.out ?_
    refine rnA 1 38 (.slice (some ⟨g, 0, none⟩) L.length c) (rnM rfl rfl) hS.out ?_
    refine rnA 2 39 (.int .i64 ((k : Nat) : Int)) (rnM rfl rfl) hS.out ?_
    simp only [Act.put, uA, uB, uC]
    refine rnA 3 40 (.pointer (some ⟨g, k * 2, none⟩)) (erI 35 41 _ _ rfl 2 k U35 g 0 _ _ (k * 2)) hS.out ?_
    refine rnA 4 41 (.pointer (some ⟨g, k * 2, none⟩)) (erF 41 0 _ rfl g (k * 2) 0 0 (k * 2) Tryz.underlying41 rfl) hS.out ?_
    refine rnA 5 42 (.int .i64 ((m : Nat) : Int)) (fun W hW => ex_load W 3 _ _ rfl ⟨g, k * 2, none⟩ U3 rfl rfl (hW)) hS.out ?_
    simp only [Act.put, uA, uB, uC]
    refine rn_one (i := 6) (dst := none) rfl (by kernel_rfl) rfl rfl (fun K hK => ?_)
    refine ow_store_mid 53 _ _ rfl w.heap.size 0 53 Z6 Z6 rfl rfl z2'.out (Nat.le_refl 6) (by kernel_rfl) six_one ?_
    intro u4 hb4 hk4 _
    have hS4 : Hd ((fun W : World => W.cell? ⟨g, k * 2, none⟩ = some (.int .i64 ((m : Nat) : Int))) u4) := ⟨hk4.see hS.out (fun e => hgB.out e)⟩
    refine hK _ _ (fun _ => hS4.out) ?_
    clear hK K hS
    simp only [Act.put, uA, uB, uC]
    obtain ⟨g1, g2⟩ := z6_out rfl rfl hb4 hk4 kw'.out rfl
    replace g1 := Hd.mk g1
    replace g2 := Hd.mk g2
    clear hb4 hk4
    refine rn_one (i := 7) (dst := some 3) rfl (by kernel_rfl) rfl rfl (fun K hK => ?_)
    refine ow_run (ex_assign _ _ (.int .i64 ((m : Nat) : Int)) rfl rfl) ?_
    refine hK _ _ (fun _ => hS4.out) ?_
    clear hK K
    simp only [Act.put, uA, uB, uC]
    refine rn_one (i := 8) (dst := some 4) rfl (by kernel_rfl) rfl rfl (fun K hK => ?_)
    refine ow_run (ex_assign _ _ (.int .i64 270) rfl rfl) ?_
    refine hK _ _ (fun _ => hS4.out) ?_
    clear hK K
    simp only [Act.put, uA, uB, uC]
    refine rn_done (by kernel_rfl) ?_ _
    go_wp2_with fail
    refine bodyPost_ret (results_3t rfl _ _ w.heap.size Z6 (.int .i64 ((m : Nat) : Int)) (.int .i64 270) rfl rfl rfl g1.out rfl) rfl ?_
    exact ⟨⟨z0, none, none, none, 0, 0, 0, (m : Int), 270, rfl, scr_z0 _, hpo.out⟩, g2.out⟩
   ·obtain ⟨hst, cs1, hr⟩ := hq1.out rfl
    have hr1 : Hd (u3.rangeAt D 0 (r6 s1 F1 c1 S1 c2 X1 c3)) := ⟨by
     have hb := hb3.out
     rw [splice6 rfl rfl] at hb
     exact hb.range 0 6⟩
    have hz5 : Hd (Blk u3 (w.heap.size + 1) (r6 s F cF S cS X cA) 53) := ⟨hk3.out.keeps (ka.out.keeps hP.out.z5 id) (by have := hP.out.le; have := hDle.out; omega)⟩
    replace hst := Hd.mk hst
    replace hr := Hd.mk hr
    clear hq1 hq0
    go_wp2_with (first | ((refine wl_load_mid rfl 53 (.tmp 8) rfl D 0 rfl (r6 s1 F1 c1 S1 c2 X1 c3) hr1.out Tryz.underlying53 rfl (by kernel_rfl) ?_)) | (refine wl_store_mid rfl 53 (.tmp 5) (.tmp 43) rfl (w.heap.size + 1) 0 53 (r6 s F cF S cS X cA) (r6 s1 F1 c1 S1 c2 X1 c3) rfl rfl hz5.out (Nat.le_refl 6) (by kernel_rfl) six_one ?_; intro u4 hb4 hk4 hs4; replace hb4 := Hd.mk hb4; replace hk4 := Hd.mk hk4; clear hs4))
    exact ⟨⟨k + 1, by go_num, by omega, ⟨s1, F1, S1, X1, c1, c2, c3, cs1, hP.out.step hx.out ka.out hDle.out hz.out hk3.out hst.out hr.out hk4.out hb4.out⟩⟩, by simp [intOf]; omega⟩
   refine ow_run (ex_alloc wr.drew 53 rfl Z6 (zero53 wr.drew)) ?_
   have hS1 : Hd ((fun W : World => W.rangeAt (w.heap.size + 1) 0 (r6 s F cF S cS X cA) ∧ W.cell? ⟨g, k * 2 + 1, none⟩ = some (.string ⟨l.toArray⟩)) (wr.drew.alloc (.cells Z6.toArray 53))) := ⟨⟨rangez hS.out.1 ((Kp.refl _ wr.drew).alloc _), ((Kp.refl (fun _ => False) wr.drew).alloc _).see hS.out.2 id⟩⟩
   refine hK _ _ (fun _ => hS1.out) ?_
   clear hK K hS
   have hS := hS1
   clear hS1
   simp only [Act.put, uA, uB, uC]
   refine rn_one (i := 7) (dst := some 32) rfl (by kernel_rfl) rfl rfl (fun K hK => ?_)
   refine ow_call 77 _ _ rfl Tryz.func77 (by kernel_rfl) (by kernel_rfl) [.agg ((r6 s F cF S cS X cA) : List Value).toArray, .int .i64 (k : Int), .string ⟨l.toArray⟩] rfl (hread.out _ ((Kp.refl _ wr).drew.alloc _)) ?_
   rintro e u2 ⟨⟨s1, F1, S1, X1, c1, c2, c3, q, rfl, hq1, hq0⟩, k1⟩
   have hS1 : Hd ((fun W : World => W.rangeAt (w.heap.size + 1) 0 (r6 s F cF S cS X cA) ∧ W.cell? ⟨g, k * 2 + 1, none⟩ = some (.string ⟨l.toArray⟩)) u2) := ⟨⟨rangez hS.out.1 k1, k1.see hS.out.2 id⟩⟩
   refine ⟨_, rfl, hK _ _ (fun _ => hS1.out) ?_⟩
   have ka : Hd (KZ wr u2) := ⟨((Kp.refl _ wr).drew.alloc _).th k1⟩
   have hDle : Hd (wr.heap.size ≤ wr.drew.heap.size) := ⟨((Kp.refl (fun _ => False) wr).drew).size⟩
   have hz : Hd (Blk u2 wr.drew.heap.size Z6 53) := ⟨k1.keeps (Blk.new wr.drew Z6 53) id⟩
   clear hK K hS hread k1
   have hS := hS1
   clear hS1
   replace hq1 := Hd.mk hq1
   replace hq0 := Hd.mk hq0
   simp only [Act.put, uA, uB, uC]
   refine rnA 8 24 (.tuple ([.agg ((r6 s1 F1 c1 S1 c2 X1 c3) : List Value).toArray, .bool q] : List Value).toArray) (rnM rfl rfl) hS.out ?_
   refine rnA 9 33 (.agg ((r6 s1 F1 c1 S1 c2 X1 c3) : List Value).toArray) (fun W hW => ex_extract W _ 0 rfl [.agg ((r6 s1 F1 c1 S1 c2 X1 c3) : List Value).toArray, .bool q] rfl _ rfl) hS.out ?_
   refine rnA 10 34 (.bool q) (fun W hW => ex_extract W _ 1 rfl [.agg ((r6 s1 F1 c1 S1 c2 X1 c3) : List Value).toArray, .bool q] rfl _ rfl) hS.out ?_
   simp only [Act.put, uA, uB, uC]
   generalize wr.drew.heap.size = D at *
   have hDn : Hd (¬ (w.heap.size + 1 = D) ∧ ¬ (g = D)) := ⟨by have := hP.out.le; have := hP.out.glt hx.out; have := hDle.out; omega⟩
   refine rn_one (i := 12) (dst := none) rfl (by kernel_rfl) rfl rfl (fun K hK => ?_)
   refine ow_store_mid 53 _ _ rfl D 0 53 Z6 (r6 s1 F1 c1 S1 c2 X1 c3) rfl rfl hz.out (Nat.le_refl 6) (by kernel_rfl) six_one ?_
   intro u3 hb3 hk3 _
   have hS3 : Hd ((fun W : World => W.rangeAt (w.heap.size + 1) 0 (r6 s F cF S cS X cA) ∧ W.cell? ⟨g, k * 2 + 1, none⟩ = some (.string ⟨l.toArray⟩)) u3) := ⟨⟨fun j v hv => hk3.see (hS.out.1 j v hv) (fun e => hDn.out.1 e), hk3.see hS.out.2 (fun e => hDn.out.2 e)⟩⟩
   refine hK _ _ (fun _ => hS3.out) ?_
   clear hK K hS
   replace hb3 := Hd.mk hb3
   replace hk3 := Hd.mk hk3
   simp only [Act.put, uA, uB, uC]
   refine rn_one (i := 13) (dst := some 9) rfl (by kernel_rfl) rfl rfl (fun K hK => ?_)
   refine ow_run (ex_assign _ _ (.bool q) rfl rfl) ?_
   refine hK _ _ (fun _ => hS3.out) ?_
   clear hK K hS3
   simp only [Act.put, uA, uB, uC]
   refine rn_done (by kernel_rfl) ?_ _
   cases q
   ·obtain ⟨z2, cm, kw⟩ := hP.out.bad hx.out ka.out hDle.out hk3.out
    replace z2 := Hd.mk z2
    replace kw := Hd.mk kw
    have hS : Hd ((fun W : World => W.cell? ⟨g, k * 2, none⟩ = some (.int .i64 ((m : Nat) : Int))) u3.drew) := ⟨(Kp.refl (fun _ => False) u3).drew.see cm id⟩
    have z2' := Hd.mk ((Kp.refl (fun _ => False) u3).drew.keeps z2.out id)
    have kw' := Hd.mk (kw.out.drew)
    have hpo := Hd.mk (hbad.out k s m l hP.out.px hx.out (hq0.out rfl))
    have hgB : Hd (¬ g = w.heap.size) := ⟨by have := hP.out.gl; omega⟩
    clear hq1 hq0 hb3 hk3 hz ka hP cm z2 kw
    go_wp2_with fail
    refine rn_begin (fun W : World => W.cell? ⟨g, k * 2, none⟩ = some (.int .i64 ((m : Nat) : Int))) (List.range 9) (by kernel_rfl) ?_
    refine rnA 0 37 (.agg Z6.toArray) (fun W hW => ex_z53 W rfl) hS.out ?_
    refine rnA 1 38 (.slice (some ⟨g, 0, none⟩) L.length c) (rnM rfl rfl) hS.out ?_
    refine rnA 2 39 (.int .i64 ((k : Nat) : Int)) (rnM rfl rfl) hS.out ?_
    simp only [Act.put, uA, uB, uC]
    refine rnA 3 40 (.pointer (some ⟨g, k * 2, none⟩)) (erI 35 41 _ _ rfl 2 k U35 g 0 _ _ (k * 2)) hS.out ?_
    refine rnA 4 41 (.pointer (some ⟨g, k * 2, none⟩)) (erF 41 0 _ rfl g (k * 2) 0 0 (k * 2) Tryz.underlying41 rfl) hS.out ?_
    refine rnA 5 42 (.int .i64 ((m : Nat) : Int)) (fun W hW => ex_load W 3 _ _ rfl ⟨g, k * 2, none⟩ U3 rfl rfl (hW)) hS.out ?_
    simp only [Act.put, uA, uB, uC]
    refine rn_one (i := 6) (dst := none) rfl (by kernel_rfl) rfl rfl (fun K hK => ?_)
    refine ow_store_mid 53 _ _ rfl w.heap.size 0 53 Z6 Z6 rfl rfl z2'.out (Nat.le_refl 6) (by kernel_rfl) six_one ?_
    intro u4 hb4 hk4 _
    have hS4 : Hd ((fun W : World => W.cell? ⟨g, k * 2, none⟩ = some (.int .i64 ((m : Nat) : Int))) u4) := ⟨hk4.see hS.out (fun e => hgB.out e)⟩
    refine hK _ _ (fun _ => hS4.out) ?_
    clear hK K hS
    simp only [Act.put, uA, uB, uC]
    obtain ⟨g1, g2⟩ := z6_out rfl rfl hb4 hk4 kw'.out rfl
    replace g1 := Hd.mk g1
    replace g2 := Hd.mk g2
    clear hb4 hk4
    refine rn_one (i := 7) (dst := some 3) rfl (by kernel_rfl) rfl rfl (fun K hK => ?_)
    refine ow_run (ex_assign _ _ (.int .i64 ((m : Nat) : Int)) rfl rfl) ?_
    refine hK _ _ (fun _ => hS4.out) ?_
    clear hK K
    simp only [Act.put, uA, uB, uC]
    refine rn_one (i := 8) (dst := some 4) rfl (by kernel_rfl) rfl rfl (fun K hK => ?_)
    refine ow_run (ex_assign _ _ (.int .i64 270) rfl rfl) ?_
    refine hK _ _ (fun _ => hS4.out) ?_
    clear hK K
    simp only [Act.put, uA, uB, uC]
    refine rn_done (by kernel_rfl) ?_ _
    go_wp2_with fail
    refine bodyPost_ret (results_3t rfl _ _ w.heap.size Z6 (.int .i64 ((m : Nat) : Int)) (.int .i64 270) rfl rfl rfl g1.out rfl) rfl ?_
    exact ⟨⟨z0, none, none, none, 0, 0, 0, (m : Int), 270, rfl, scr_z0 _, hpo.out⟩, g2.out⟩
   ·obtain ⟨hst, cs1, hr⟩ := hq1.out rfl
    have hr1 : Hd (u3.rangeAt D 0 (r6 s1 F1 c1 S1 c2 X1 c3)) := ⟨by
     have hb := hb3.out
     rw [splice6 rfl rfl] at hb
     exact hb.range 0 6⟩
    have hz5 : Hd (Blk u3 (w.heap.size + 1) (r6 s F cF S cS X cA) 53) := ⟨hk3.out.keeps (ka.out.keeps hP.out.z5 id) (by have := hP.out.le; have := hDle.out; omega)⟩
    replace hst := Hd.mk hst
    replace hr := Hd.mk hr
    clear hq1 hq0
    go_wp2_with (first | ((refine wl_load_mid rfl 53 (.tmp 8) rfl D 0 rfl (r6 s1 F1 c1 S1 c2 X1 c3) hr1.out Tryz.underlying53 rfl (by kernel_rfl) ?_)) | (refine wl_store_mid rfl 53 (.tmp 5) (.tmp 43) rfl (w.heap.size + 1) 0 53 (r6 s F cF S cS X cA) (r6 s1 F1 c1 S1 c2 X1 c3) rfl rfl hz5.out (Nat.le_refl 6) (by kernel_rfl) six_one ?_; intro u4 hb4 hk4 hs4; replace hb4 := Hd.mk hb4; replace hk4 := Hd.mk hk4; clear hs4))
    exact ⟨⟨k + 1, by go_num, by omega, ⟨s1, F1, S1, X1, c1, c2, c3, cs1, hP.out.step hx.out ka.out hDle.out hz.out hk3.out hst.out hr.out hk4.out hb4.out⟩⟩, by simp [intOf]; omega⟩
  ·have hke : k = L.length := by omega
   subst hke
   have hlt2 : ¬ ((L.length : Int) < L.length) := by omega
   have hinv := hP.out.px
   have kw := Hd.mk hP.out.kp
   have z2 := Hd.mk hP.out.z2
   by_cases h3 : L.length < 3
   ·have h3' : (L.length : Int) < 3 := by omega
    have hpo := Hd.mk (hfew.out s hinv h3)
    clear hAg hlt hfew hgood hbad hinv h3 hP
    go_wp2_with (first | ((refine wl_run rfl (ex_z53 _ rfl) ?_)))
    refine (hall.out _).mono ?_
    rintro e w5 ⟨⟨A9, c9, rfl⟩, k5⟩
    have z5 := Hd.mk (k5.keeps z2.out id)
    have kw5 := Hd.mk (kw.out.th k5)
    clear k5 z2 kw hall
    go_wp2_with (first | (simp only [Bool.false_eq_true, if_false]) | (refine wl_store_mid rfl 53 (.tmp 2) (.tmp 47) rfl w.heap.size 0 53 Z6 Z6 rfl rfl z5.out (Nat.le_refl 6) (by kernel_rfl) six_one ?_; intro u4 hb4 hk4 hs4; replace hb4 := Hd.mk hb4; replace hk4 := Hd.mk hk4; clear hs4))
    obtain ⟨g1, g2⟩ := z6_out rfl rfl hb4.out hk4.out kw5.out rfl
    refine bodyPost_ret (results_3t rfl _ _ w.heap.size Z6 (.int .i64 ((N : Int) + 1)) (.int .i64 270) rfl rfl rfl g1 rfl) rfl ?_
    exact ⟨⟨z0, none, none, none, 0, 0, 0, (N : Int) + 1, 270, rfl, scr_z0 _, hpo.out⟩, g2⟩
   ·have h3' : ¬ (L.length : Int) < 3 := by omega
    have hpo := Hd.mk (hgood.out s hinv (by omega))
    have hz5 := Hd.mk (hP.out.z5)
    have hr5 := Hd.mk (hz5.out.range 0 6)
    have hrz := Hd.mk hP.out.rz
    clear hAg hlt hfew hgood hbad hinv h3 hP hall
    go_wp2_with (first | ((refine wl_load_mid rfl 53 (.tmp 5) rfl (w.heap.size + 1) 0 rfl (r6 s F cF S cS X cA) hr5.out Tryz.underlying53 rfl (by kernel_rfl) ?_)) | (refine wl_store_mid rfl 53 (.tmp 2) (.tmp 52) rfl w.heap.size 0 53 Z6 (r6 s F cF S cS X cA) rfl rfl z2.out (Nat.le_refl 6) (by kernel_rfl) six_one ?_; intro u4 hb4 hk4 hs4; replace hb4 := Hd.mk hb4; replace hk4 := Hd.mk hk4; clear hs4))
    obtain ⟨g1, g2⟩ := z6_out rfl rfl hb4.out hk4.out kw.out rfl
    refine bodyPost_ret (results_3t rfl _ _ w.heap.size (r6 s F cF S cS X cA) (.int .i64 0) (.int .i64 0) rfl rfl rfl g1 rfl) rfl ?_
    exact ⟨⟨s, F, S, X, cF, cS, cA, 0, 0, rfl, (hrz.out.keepS hk4.out (fun k e => by omega)).scr2, hpo.out⟩, g2⟩
theorem rparse_at (t : List UInt8) (w : World) : Calls Tryz.prog 31 #[.string ⟨t.toArray⟩] w fun e w' => PaR t w w' e := by
 by_cases h : t.length ≤ 65536
 ·exact rparse_short t h w
 ·exact rparse_long t (by omega) w
end Go.Proofs.YtkcechpaeilaeaaGreatDoor
namespace Go.Proofs.YtkcechpaeilaeaaGreatDoor
open Go.RowKit
theorem lnGo_count : ∀ (r cur : List UInt8), (lnGo cur r).length = r.count 10 + (if cur ++ r = [] ∨ (r = [] ∧ cur = []) ∨ r.getLast? = some 10 then 0 else 1)
 | [], cur => by
  simp only [lnGo]
  split <;> simp_all
 | c :: r, cur => by
  simp only [lnGo]
  split
  ·rename_i h
   have ih := lnGo_count r []
   simp only [List.length_cons, ih, List.nil_append]
   have hc : c = 10 := by simpa using h
   subst hc
   cases r with
   | nil => simp
   | cons d r => simp [List.getLast?_cons_cons]; omega
  ·rename_i h
   have ih := lnGo_count r (cur ++ [c])
   have hc : c ≠ 10 := by simpa using h
   rw [ih]
   cases r with
   | nil => simp [hc]
   | cons d r => simp [List.count_cons, hc, List.getLast?_cons_cons]
end Go.Proofs.YtkcechpaeilaeaaGreatDoor
namespace Go.Proofs
open Go.Shelf
def Tryz.lays138_ren : Go.Shelf.Ren := ⟨fun | 138 => 76 | 195 => 97 | 218 => 98 | 143 => 99 | 219 => 110 | 217 => 85 | 225 => 129 | 224 => 130 | 267 => 131 | 266 => 109 | 314 => 148 | n => n, fun | 9 => 9 | 3 => 3 | 4 => 4 | 5 => 5 | 0 => 0 | 46 => 89 | 146 => 186 | 51 => 177 | n => n, fun | 1 => 0 | n => n⟩
theorem Tryz.lays138 : Go.Proofs.Lays.n138 Tryz.prog Tryz.lays138_ren := {
 mixed := by kernel_rfl
 f138 := Tryz.func76.trans (congrArg some (by kernel_rfl))
 f143 := Tryz.func99.trans (congrArg some (by kernel_rfl))
 f195 := Tryz.func97.trans (congrArg some (by kernel_rfl))
 f217 := Tryz.func85.trans (congrArg some (by kernel_rfl))
 f218 := Tryz.func98.trans (congrArg some (by kernel_rfl))
 f219 := Tryz.func110.trans (congrArg some (by kernel_rfl))
 f224 := Tryz.func130.trans (congrArg some (by kernel_rfl))
 f225 := Tryz.func129.trans (congrArg some (by kernel_rfl))
 f266 := Tryz.func109.trans (congrArg some (by kernel_rfl))
 f267 := Tryz.func131.trans (congrArg some (by kernel_rfl))
 f314 := Tryz.func148.trans (congrArg some (by kernel_rfl))
 t0 := Tryz.underlying0
 a0 := Tryz.isAgg0
 z0 := Tryz.sizeOf0
 v0 := Tryz.zeroValue0
 t3 := Tryz.underlying3
 a3 := Tryz.isAgg3
 z3 := Tryz.sizeOf3
 v3 := Tryz.zeroValue3
 t4 := Tryz.underlying4
 a4 := Tryz.isAgg4
 z4 := Tryz.sizeOf4
 v4 := Tryz.zeroValue4
 t5 := Tryz.underlying5
 a5 := Tryz.isAgg5
 z5 := Tryz.sizeOf5
 v5 := Tryz.zeroValue5
 t9 := Tryz.underlying9
 a9 := Tryz.isAgg9
 z9 := Tryz.sizeOf9
 v9 := Tryz.zeroValue9
 t46 := Tryz.underlying89
 a46 := Tryz.isAgg89
 z46 := Tryz.sizeOf89
 v46 := Tryz.zeroValue89
 t51 := Tryz.underlying177
 a51 := Tryz.isAgg177
 z51 := Tryz.sizeOf177
 v51 := Tryz.zeroValue177
 t146 := Tryz.underlying186
 a146 := Tryz.isAgg186
 z146 := Tryz.sizeOf186
 v146 := Tryz.zeroValue186
 g1 := by kernel_rfl }
open Go.RowKit Go.Lib in
theorem Tryz.strings_Count_one (s : ByteArray) (c : UInt8) (w : World) :
 Calls Tryz.prog 76 #[.string s, .string ⟨#[c]⟩] w fun e w' => e = .returned (.int .i64 (Lib.countByte s.data.toList c)) ∧ w' = w := Any.strings_Count_one Tryz.lays138 s c w
end Go.Proofs
