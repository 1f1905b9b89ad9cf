/- Joined out of: Pc. -/
import Derived.Test.YtkcechpaeilaeaaGreatDoorK13
import Derived.Test.YtkcechpaeilaeaaGreatDoorK14
import Derived.Lib.AppendStr
import Derived.Test.YtkcechpaeilaeaaGreatDoorK4
set_option linter.unusedVariables false
set_option linter.unusedSimpArgs false
namespace Go.Proofs.YtkcechpaeilaeaaGreatDoor
open Go.RowKit
set_option maxRecDepth 20000
def Wos (w : World) (v : Value) (ss : List (List UInt8)) : Prop := ∃ A c, v = .slice A ss.length c ∧ (ss = [] ∨ ∃ g o, A = some ⟨g, o, none⟩ ∧ w.rangeAt g o (wcl ss))
theorem Wos.keep {w w' : World} {v : Value} {l : List (List UInt8)} (h : Wos w v l) (hk : KZ w w') : Wos w' v l := by
 obtain ⟨A, c, rfl, h⟩ := h
 refine ⟨A, c, rfl, ?_⟩
 rcases h with h | ⟨g, o, rfl, hr⟩
 ·exact .inl h
 ·by_cases h0 : l = []
  ·exact .inl h0
  ·refine .inr ⟨g, o, rfl, rangeAt_keep hr (hk.block g (rangeAt_lt hr (fun e => h0 ?_)) id)⟩
   have := congrArg List.length e
   simp only [wcl, List.length_map, List.length_nil] at this
   exact List.eq_nil_of_length_eq_zero this
theorem Wos.cell {w : World} {A : Option Addr} {n c : Nat} {l : List (List UInt8)} (h : Wos w (.slice A n c) l) {k : Nat} {x : List UInt8} (hx : l[k]? = some x) : ∃ g o, A = some ⟨g, o, none⟩ ∧ w.cell? ⟨g, o + k, none⟩ = some (.string ⟨x.toArray⟩) := by
 obtain ⟨A', c', e, h⟩ := h
 injection e with e1 e2 e3
 subst e1
 rcases h with rfl | ⟨g, o, rfl, hr⟩
 ·simp at hx
 ·exact ⟨g, o, rfl, hr _ _ (wcl_get l k x hx)⟩
def GoodW (fl : List Fo) (cap : Int) (ss : List (List UInt8)) (i : Nat) : Prop := ∀ l, ss[i]? = some l → okW fl cap l ∧ ∀ j k, i = j + 1 → ss[j]? = some k → Op.bytesLess k l = true
def mayC (fl : List Fo) (ss : List (List UInt8)) (cap : Int) : Prop := fchk fl ∧ (1 ≤ cap ∧ cap ≤ 12) ∧ ss.length ≤ 32 ∧ ∀ i, i < ss.length → GoodW fl cap ss i
theorem ex_sgeq {P : Program} {o : Oper} {a : Act} (w : World) (t t2 : Nat) (x y : Operand) (ho : o.op = .binOp .geq t x y t2) (p q : List UInt8) (hx : a.eval x = .string ⟨p.toArray⟩) (hy : a.eval y = .string ⟨q.toArray⟩) (b : Bool) (hb : Op.bytesLess p q = !b) :
  (execOp a.eval o).run P w = .ok (.value (.bool b)) w := by
 unfold execOp
 simp only [ho, hx, hy, Sem.run_bind]
 have hg : (eqGuard .geq t x y (.string ⟨p.toArray⟩) (.string ⟨q.toArray⟩)).run P w = .ok () w := by rfl
 have hb2 : (binOp .geq t (.string ⟨p.toArray⟩) (.string ⟨q.toArray⟩)).run P w = .ok (.bool b) w := by
  simp only [binOp, Op.stringOp, ByteArray.toList_eq, hb, Bool.not_not]
  rfl
 rw [hg]
 simp only [Result.andThen_ok, hb2]
 rfl
theorem box3 (w w' : World) (a b c : Value) (t : TypeId) (hk : KZ (w.alloc (.cells #[a, b, c] t)) w') : w'.cell? ⟨w.heap.size, 0, none⟩ = some a ∧ w'.cell? ⟨w.heap.size, 1, none⟩ = some b ∧ w'.cell? ⟨w.heap.size, 2, none⟩ = some c := by
 obtain ⟨h0, h1, h2⟩ := row3_new w a b c t
 exact ⟨hk.see h0 id, hk.see h1 id, hk.see h2 id⟩
theorem box3r (w w' : World) (a b c : Value) (t : TypeId) (hk : KZ (w.alloc (.cells #[a, b, c] t)) w') : w'.rangeAt w.heap.size 0 [a, b, c] := fun j x hu => by
 obtain ⟨h0, h1, h2⟩ := box3 w w' a b c t hk
 rw [Nat.zero_add]
 match j, hu with
 | 0, hu => injection hu with hu; subst hu; exact h0
 | 1, hu => injection hu with hu; subst hu; exact h1
 | 2, hu => injection hu with hu; subst hu; exact h2
def BoR (p : Prop) (w w' : World) (e : Ending) : Prop := (∃ b, e = .returned (.bool b) ∧ (b = true ↔ p)) ∧ KZ w w'
set_option maxHeartbeats 4000000 in
theorem wmay_at {w : World} {AF AS : Option Addr} {cF cS : Nat} (fl : List Fo) (ss : List (List UInt8)) (cap : Int) (hwf : ∀ x ∈ fl, (-2147483648 ≤ x.f ∧ x.f ≤ 2147483647) ∧ (-2147483648 ≤ x.t ∧ x.t ≤ 2147483647)) (hss : ∀ l ∈ ss, l.length ≤ 2000000)
  (hF : Fr w (.slice AF fl.length cF) fl) (hS : Wos w (.slice AS ss.length cS) ss) :
  Calls Tryz.prog 88 #[.agg #[.slice AF fl.length cF, .slice AS ss.length cS, .int .i64 cap]] w fun e w' => BoR (mayC fl ss cap) w w' e := by
 obtain ⟨nf, hnf⟩ : ∃ n, fl.length = n := ⟨_, rfl⟩
 obtain ⟨ns, hns⟩ : ∃ n, ss.length = n := ⟨_, rfl⟩
 obtain ⟨w1, hw1⟩ : ∃ w1, w.alloc (.cells #[.slice AF nf cF, .slice AS ns cS, .int .i64 cap] 50) = w1 := ⟨_, rfl⟩
 have k01 : Hd (KZ w w1) := ⟨by rw [← hw1]; exact (Kp.refl _ w).alloc _⟩
 have hfc := Hd.mk (fcheck_at (w := w1) fl hwf (hF.keep k01.out))
 have hbx : Hd (∀ w', KZ w1 w' → (w'.cell? ⟨w.heap.size, 0, none⟩ = some (.slice AF nf cF) ∧ w'.cell? ⟨w.heap.size, 1, none⟩ = some (.slice AS ns cS) ∧ w'.cell? ⟨w.heap.size, 2, none⟩ = some (.int .i64 cap)) ∧ w'.rangeAt w.heap.size 0 [.slice AF nf cF, .slice AS ns cS, .int .i64 cap]) := ⟨fun w' hk => by
  rw [← hw1] at hk
  exact ⟨box3 _ _ _ _ _ _ hk, box3r _ _ _ _ _ _ hk⟩⟩
 have HF := Hd.mk (hF.keep k01.out)
 have HS := Hd.mk (hS.keep k01.out)
 have Hss := Hd.mk hss
 rw [hnf] at HF hfc ⊢
 rw [hns] at HS ⊢
 have hnf' := Hd.mk hnf
 have hns' := Hd.mk hns
 clear hnf hns
 have hnf := hnf'
 have hns := hns'
 clear hnf' hns'
 clear hwf hF hS hss
 obtain ⟨e0, e1, e2⟩ := row3_new w (.slice AF nf cF) (.slice AS ns cS) (.int .i64 cap) 50
 have hwq := Hd.mk hw1
 clear hw1
 go_enter Tryz.func88, Tryz.ntmps88
 go_wp2_with fail
 rw [hwq.out] at e0 e1 e2 ⊢
 refine hfc.out.mono ?_
 rintro e w2 ⟨⟨rfl, hck⟩ | ⟨rfl, hck⟩, k2⟩
 ·have K2 := Hd.mk k2
  have hck := Hd.mk hck
  obtain ⟨⟨d0, d1, d2⟩, dr⟩ := hbx.out w2 k2
  clear e0 e1 e2 k2 hfc
  have dr := Hd.mk dr
  by_cases hc1 : cap < 1
  ·go_wp2_with fail
   go_ret
   exact ⟨⟨false, rfl, ⟨fun h => (by cases h), fun h => by have := h.2.1.1; omega⟩⟩, k01.out.th K2.out⟩
  ·by_cases hc2 : 12 < cap
   ·go_wp2_with fail
    go_ret
    exact ⟨⟨false, rfl, ⟨fun h => (by cases h), fun h => by have := h.2.1.2; omega⟩⟩, k01.out.th K2.out⟩
   ·by_cases hc3 : 32 < ns
    ·have hc3I : (32 : Int) < (ns : Int) := by omega
     go_wp2_with fail
     go_ret
     exact ⟨⟨false, rfl, ⟨fun h => (by cases h), fun h => by have := h.2.2.1; have := hns.out; omega⟩⟩, k01.out.th K2.out⟩
    ·have hc3I : ¬ (32 : Int) < (ns : Int) := by omega
     have hnf2 := Hd.mk (newfolds_at fl AF nf cF (.slice AS ns cS) cap w2)
     go_wp2_with (first | (with_reducible refine wl_load_mid rfl 50 (.tmp 1) rfl w.heap.size 0 rfl [.slice AF nf cF, .slice AS ns cS, .int .i64 cap] dr.out Tryz.underlying50 rfl (by kernel_rfl) ?_))
     refine hnf2.out.mono ?_
     rintro e w3 ⟨p, m, rfl, hD⟩
     obtain ⟨⟨b0, b1, b2⟩, _⟩ := hbx.out w3 (K2.out.th hD.old)
     have hD := Hd.mk hD
     clear d0 d1 d2 dr hnf2
     go_wp2_with fail
     have hD0 := hD
     go_loopw [31] (fun v31 wr => ∃ k : Nat, v31 = .int .i64 k ∧ k ≤ ns ∧ Hd (Fd fl AF nf cF w2 wr p m ∧ ∀ j, j < k → GoodW fl cap ss j)) (fun v31 _ => ns - (intOf v31).toNat)
     case atStart => exact ⟨0, rfl, Nat.zero_le _, ⟨hD.out, fun j hj => absurd hj (Nat.not_lt_zero _)⟩⟩
     case round =>
      clear hD hD0 b0 b1 b2
      obtain ⟨k, rfl, hk, HK⟩ := hrel
      have KR := Hd.mk (K2.out.th HK.out.1.old)
      by_cases h1 : k < ns
      ·have hltI : (k : Int) < (ns : Int) := by omega
       obtain ⟨l, hlk⟩ : ∃ l, ss[k]? = some l := ⟨_, List.getElem?_eq_getElem (by rw [hns.out]; exact h1)⟩
       obtain ⟨g, o, rfl, c1⟩ := (HS.out.keep KR.out).cell hlk
       obtain ⟨⟨b0, b1, b2⟩, br⟩ := hbx.out wr KR.out
       have br := Hd.mk br
       have hNG : Hd (¬ GoodW fl cap ss k → ¬ mayC fl ss cap) := ⟨fun hn h => hn (h.2.2.2 k (by rw [hns.out]; exact h1))⟩
       have hown := Hd.mk (own_at (w := wr) (w0 := w2) (A := AF) (c := cF) (p := p) (m := m) fl (.slice (some ⟨g, o, none⟩) ns cS) cap l (Hss.out l (List.mem_of_getElem? hlk)) (by rw [hnf.out]; exact HF.out.keep K2.out) hck.out (by rw [hnf.out]; exact HK.out.1) HK.out.1.old.size)
       rw [hnf.out] at hown
       have hpm := Hd.mk HK.out.1.pm
       have hlk := Hd.mk hlk
       cases k with
       | zero =>
        have c1 : wr.cell? ⟨g, o, none⟩ = some (.string ⟨l.toArray⟩) := c1
        go_wp2_with (first | ((with_reducible refine wl_runG ?hw (ex_load_mid _ 50 (.tmp 1) rfl w.heap.size 0 rfl [.slice AF nf cF, .slice (some ⟨g, o, none⟩) ns cS, .int .i64 cap] br.out Tryz.underlying50 rfl (by kernel_rfl)) ?_); (case hw => rfl); simp only [Act.put, uA, uB, uC]) | (go_at_call 113; refine hown.out.mono ?_; rintro e w4 ⟨⟨b, rfl, hb⟩, hD4, hk4⟩; have hb := Hd.mk hb; rw [hnf.out] at hD4; have hD4 := Hd.mk hD4; clear hk4; cases b <;> dsimp only))
        ·go_ret
         exact ⟨⟨false, rfl, ⟨fun h => (by cases h), fun h => absurd h (hNG.out (fun hg => by have := hb.out.2 (hg l hlk.out).1; cases this))⟩⟩, k01.out.th (K2.out.th hD4.out.old)⟩
        ·skip
         refine And.intro (Exists.intro (1) ⟨by go_num, by omega, ⟨hD4.out, fun j hj => ?_⟩⟩) (by simp [intOf]; omega)
         by_cases e : j = 0
         ·subst e
          intro l' hl'
          rw [hlk.out] at hl'
          cases hl'
          refine ⟨hb.out.1 rfl, fun j y2 e hy2 => ?_⟩
          omega
         ·exact HK.out.2 j (by omega)
       | succ k' =>
        obtain ⟨y, hy⟩ : ∃ y, ss[k']? = some y := ⟨_, List.getElem?_eq_getElem (by rw [hns.out]; omega)⟩
        obtain ⟨g2, o2, hA2, c2⟩ := (HS.out.keep KR.out).cell hy
        cases hA2
        have hy := Hd.mk hy
        have hk0 : (0 : Int) < ((k' + 1 : Nat) : Int) := by omega
        have hk1 : Hd (IntKind.i64.wrap (((k' + 1 : Nat) : Int) - 1) = (k' : Int)) := ⟨by rw [w64 (by omega)]; omega⟩
        obtain ⟨q, hq⟩ : ∃ q, Hd (Op.bytesLess y l = !q) := ⟨!(Op.bytesLess y l), ⟨by simp⟩⟩
        cases q
        ·go_wp2_with (first | ((with_reducible refine wl_runG ?hw (ex_subk _ 3 3 (.tmp 41) (.const (.int .i64 1)) rfl .i64 _ _ rfl rfl (k' : Int) hk1.out) ?_); (case hw => rfl); simp only [Act.put, uA, uB, uC]) | ((with_reducible refine wl_runG ?hw (ex_sgeq _ 9 9 (.tmp 44) (.tmp 45) rfl y l rfl rfl false hq.out) ?_); (case hw => rfl); simp only [Act.put, uA, uB, uC]) | ((with_reducible refine wl_runG ?hw (ex_load_mid _ 50 (.tmp 1) rfl w.heap.size 0 rfl [.slice AF nf cF, .slice (some ⟨g, o, none⟩) ns cS, .int .i64 cap] br.out Tryz.underlying50 rfl (by kernel_rfl)) ?_); (case hw => rfl); simp only [Act.put, uA, uB, uC]) | (go_at_call 113; refine hown.out.mono ?_; rintro e w4 ⟨⟨b, rfl, hb⟩, hD4, hk4⟩; have hb := Hd.mk hb; rw [hnf.out] at hD4; have hD4 := Hd.mk hD4; clear hk4; cases b <;> dsimp only))
         ·go_ret
          exact ⟨⟨false, rfl, ⟨fun h => (by cases h), fun h => absurd h (hNG.out (fun hg => by have := hb.out.2 (hg l hlk.out).1; cases this))⟩⟩, k01.out.th (K2.out.th hD4.out.old)⟩
         ·skip
          refine And.intro (Exists.intro (k' + 1 + 1) ⟨by go_num, by omega, ⟨hD4.out, fun j hj => ?_⟩⟩) (by simp [intOf]; omega)
          by_cases e : j = k' + 1
          ·subst e
           intro l' hl'
           rw [hlk.out] at hl'
           cases hl'
           refine ⟨hb.out.1 rfl, fun j y2 e hy2 => ?_⟩
           obtain rfl : j = k' := by omega
           rw [hy.out] at hy2
           cases hy2
           exact hq.out
          ·exact HK.out.2 j (by omega)
        ·go_wp2_with (first | ((with_reducible refine wl_runG ?hw (ex_subk _ 3 3 (.tmp 41) (.const (.int .i64 1)) rfl .i64 _ _ rfl rfl (k' : Int) hk1.out) ?_); (case hw => rfl); simp only [Act.put, uA, uB, uC]) | ((with_reducible refine wl_runG ?hw (ex_sgeq _ 9 9 (.tmp 44) (.tmp 45) rfl y l rfl rfl true hq.out) ?_); (case hw => rfl); simp only [Act.put, uA, uB, uC]))
         go_ret
         exact ⟨⟨false, rfl, ⟨fun h => (by cases h), fun h => absurd h (hNG.out (fun hg => by have := (hg l hlk.out).2 k' y rfl hy.out; rw [hq.out] at this; cases this))⟩⟩, k01.out.th KR.out⟩
      ·have hltI : ¬ (k : Int) < (ns : Int) := by omega
       obtain rfl : k = ns := by omega
       go_wp2_with fail
       go_ret
       exact ⟨⟨true, rfl, ⟨fun _ => ⟨hck.out, by omega, by have := hns.out; omega, fun i hi => HK.out.2 i (by rw [← hns.out]; exact hi)⟩, fun _ => rfl⟩⟩, k01.out.th KR.out⟩
 ·obtain ⟨⟨d0, d1, d2⟩, _⟩ := hbx.out w2 k2
  have K2 := Hd.mk k2
  clear e0 e1 e2 k2 hfc
  go_wp2_with fail
  go_ret
  exact ⟨⟨false, rfl, ⟨fun h => (by cases h), fun h => absurd h.1 hck⟩⟩, k01.out.th K2.out⟩
end Go.Proofs.YtkcechpaeilaeaaGreatDoor
namespace Go.Proofs.YtkcechpaeilaeaaGreatDoor
open Go.RowKit
set_option maxRecDepth 20000
theorem bs_kpz {w w' : World} {v : Value} {l : List Int} (h : Bs w v l) (hk : KZ w w') : Bs w' v l := Bs.keep h (fun b hb _ => hk.block b hb id)
theorem inf5r : (Tryz.prog.info? 5).map (·.size) = some 1 := by kernel_rfl
theorem info5y : (Tryz.prog.info? 5).map (fun i => (i.zero, i.size, i.bytes)) = some (some (.int .u8 0), 1, 1) := by kernel_rfl
theorem madeCells_one (z : Value) (n : Nat) : madeCells #[z] n = (List.replicate n z).toArray := by
 apply Array.ext'
 apply List.ext_getElem?
 intro i
 simp only [madeCells, Array.toList_map, Array.toList_range, List.getElem?_map, List.getElem?_replicate]
 rcases Nat.lt_or_ge i n with h | h
 ·rw [List.getElem?_range h, if_pos h]; simp [Nat.mod_one]
 ·rw [List.getElem?_eq_none (by simpa using h), if_neg (by omega)]; rfl
theorem u8s_zeros (n : Nat) : u8s (List.replicate n 0) = List.replicate n (.int .u8 0) := by simp [u8s]
theorem run_make_bytes (w : World) (n : Nat) (hn : n ≤ 281474976710656) : (Instr.makeSlice 22 (.int .i64 n) (.int .i64 n)).run Tryz.prog w = .ok (.slice (some ⟨w.heap.size, 0, none⟩) n n) (w.alloc (.cells (u8s (List.replicate n 0)).toArray 5)) := by
 obtain ⟨i0, hi, hz0, hz1, hz2⟩ := info_parts info5y
 have := run_make (P := Tryz.prog) w 22 5 i0 (.int .u8 0) U22 hi hz0 .i64 .i64 n n (by omega) (Int.le_refl _) (by rw [hz2]; omega) (by omega)
 rw [hz1, Nat.mul_one, Int.toNat_natCast] at this
 rw [this]
 simp only [Value.cells, madeCells_one, u8s_zeros]
section
variable {o : Oper} {a : Act}
theorem ex_makeB (w : World) (x y : Operand) (n : Nat) (ho : o.op = .makeSlice 22 x y) (hx : a.eval x = .int .i64 (n : Int)) (hy : a.eval y = .int .i64 (n : Int)) (hn : n ≤ 281474976710656) :
  (execOp a.eval o).run Tryz.prog w = .ok (.value (.slice (some ⟨w.heap.size, 0, none⟩) n n)) (w.alloc (.cells (u8s (List.replicate n 0)).toArray 5)) := by
 unfold execOp
 simp only [ho, hx, hy, Sem.run_bind, run_make_bytes w n hn, Result.andThen_ok]
 rfl
theorem ex_copyB (w : World) (x y : Operand) (ho : o.op = .call { callee := .builtin .copy, args := #[x, y], argTypes := #[22, 22] }) (b off n1 c : Nat) (l : List Int) (old : List Value) (hx : a.eval x = .slice (some ⟨b, off, none⟩) n1 c) {v : Value} (hy : a.eval y = v) (hv : Bs w v l)
  (hle : l.length ≤ n1) (hb : Blk w b old 5) (hn : off + l.length ≤ old.length) :
  (execOp a.eval o).run Tryz.prog w = .ok (.value (.int .i64 l.length)) (w.setCells b off (u8s l)) := by
 obtain ⟨A, c2, rfl, _, hr⟩ := hv
 have hf : (Builtin.firstCells 1 l.length (.slice A l.length c2)).run Tryz.prog w = .ok (u8s l).toArray w := by
  cases A with
  | none =>
   rcases hr with rfl | ⟨_, _, e, _⟩
   ·rfl
   ·cases e
  | some ad =>
   refine run_firstCells_some (P := Tryz.prog) w 1 l.length ad l.length c2 (u8s l) (by simp) (fun j v hv => ?_)
   rcases hr with rfl | ⟨b2, o2, e, hr⟩
   ·simp [u8s] at hv
   ·cases e
    rw [Addr.add_mid]
    exact hr j v hv
 have hlu : (u8s l).length = l.length := by simp
 have hst := run_storeCells_cells (P := Tryz.prog) b off (u8s l) 0 w (fun j hj => by simpa using (hb.there off (u8s l).length (by rw [hlu]; exact hn) j hj).1) (fun j hj => by simpa using (hb.there off (u8s l).length (by rw [hlu]; exact hn) j hj).2) (u8s_one l)
 simp only [Nat.add_zero] at hst
 have hsz : (sizeOf 5).run Tryz.prog w = .ok 1 w := sizeOf_run (P := Tryz.prog) w (by kernel_rfl)
 unfold execOp
 simp only [ho, resolve, invoke, builtin, Sem.run_bind, Sem.run_pure, Result.andThen_ok, List.map_toArray, List.map_cons, List.map_nil, hx, hy]
 have : (Builtin.copy_ #[22, 22] o.type #[.slice (some ⟨b, off, none⟩) n1 c, .slice A l.length c2]).run Tryz.prog w = .ok (.int .i64 l.length) (w.setCells b off (u8s l)) := by
  have hmin : Nat.min l.length n1 = l.length := Nat.min_eq_left hle
  simp [Builtin.copy_, run_underlying U22, Builtin.lenOf, hmin, hsz, hf, hst, goInt]
 rw [this]
 rfl
end
theorem splice_u8s {old l : List Int} {off : Nat} (h : off + l.length ≤ old.length) : ∃ l', splice (u8s old) off (u8s l) = u8s l' ∧ l'.length = old.length := by
 refine ⟨old.take off ++ l ++ old.drop (off + l.length), ?_, ?_⟩
 ·simp [splice, u8s, List.map_take, List.map_drop]
 ·simp only [List.length_append, List.length_take, List.length_drop]
  omega
theorem set_u8s {l : List Int} {i : Nat} {n : Int} : ∃ l', (u8s l).set i (.int .u8 n) = u8s l' ∧ l'.length = l.length := ⟨l.set i n, by simp [u8s, List.map_set], by simp⟩
theorem ex_copyBok {w1 : World} {B L N : Nat} {A : Option Addr} {cA : Nat} {l : List Int} (hb : Blk w1 B (u8s (List.replicate N 0)) 5) (hv : Bs w1 (.slice A L cA) l) (hL : l.length = L) (hLN : L ≤ N) :
  (∀ {o : Oper} {a : Act} (x y : Operand), o.op = .call { callee := .builtin .copy, args := #[x, y], argTypes := #[22, 22] } → a.eval x = .slice (some ⟨B, 0, none⟩) N N → a.eval y = .slice A L cA → (execOp a.eval o).run Tryz.prog w1 = .ok (.value (.int .i64 (L : Int))) (w1.setCells B 0 (u8s l))) ∧
  ∃ l', Blk (w1.setCells B 0 (u8s l)) B (u8s l') 5 ∧ l'.length = N ∧ Kp (· = B) w1 (w1.setCells B 0 (u8s l)) := by
 subst hL
 refine ⟨fun {o a} x y ho hx hy => ex_copyB (o := o) (a := a) w1 x y ho B 0 N N l _ hx hy hv hLN hb (by simpa using hLN), ?_⟩
 obtain ⟨l', h1, h2⟩ := splice_u8s (old := List.replicate N 0) (l := l) (off := 0) (by simpa using hLN)
 refine ⟨l', ?_, by rw [h2]; simp, Kp.setCells (S := (· = B)) B (.inr rfl) (u8s l) 0 (Kp.refl _ _)⟩
 rw [← h1]
 exact hb.setCells (u8s l) 0 (by simpa using hLN)
def GrR (L n : Nat) (w w' : World) (e : Ending) : Prop := ∃ l, e = .returned (.tuple #[.slice (some ⟨w.heap.size, 0, none⟩) (L + n) (L + n), .slice (some ⟨w.heap.size, L, none⟩) n n]) ∧ Blk w' w.heap.size (u8s l) 5 ∧ l.length = L + n ∧ KZ w w'
set_option maxHeartbeats 2000000 in
theorem grown_at {w : World} {v : Value} (l : List Int) (hB : Bs w v l) (n : Nat) (hn1 : 1 ≤ n) (hn : n ≤ 1000000) (hl : l.length ≤ 1000000) : Calls Tryz.prog 115 #[v, .int .i64 (n : Int)] w fun e w' => GrR l.length n w w' e := by
 obtain ⟨A, cA, rfl, hcA⟩ : ∃ A c, v = .slice A l.length c ∧ True := by
  obtain ⟨A, c, rfl, _⟩ := hB
  exact ⟨A, c, rfl, trivial⟩
 have HB := Hd.mk (bs_kpz hB ((Kp.refl (fun _ => False) w).alloc (.cells (u8s (List.replicate (l.length + n) 0)).toArray 5)))
 obtain ⟨w1, hw1⟩ : ∃ w1, w.alloc (.cells (u8s (List.replicate (l.length + n) 0)).toArray 5) = w1 := ⟨_, rfl⟩
 have hb1 : Hd (Blk w1 w.heap.size (u8s (List.replicate (l.length + n) 0)) 5) := ⟨by rw [← hw1]; exact Blk.new w _ 5⟩
 have k1 : Hd (KZ w w1) := ⟨by rw [← hw1]; exact (Kp.refl _ w).alloc _⟩
 rw [hw1] at HB
 have hw1' := Hd.mk hw1
 clear hw1 hB
 obtain ⟨L, hL⟩ : ∃ L, l.length = L := ⟨_, rfl⟩
 obtain ⟨N, hNe⟩ : ∃ N, L + n = N := ⟨_, rfl⟩
 rw [hL, hNe] at hb1 hw1'
 rw [hL]
 have HB1 := HB.out
 clear HB
 rw [hL] at HB1
 have HB := Hd.mk HB1
 clear HB1
 have hN : Hd (IntKind.i64.wrap ((L : Int) + (n : Int)) = (N : Int)) := ⟨by rw [w64 (by omega)]; omega⟩
 have hLn : Hd (l.length = L ∧ L + n = N ∧ N - L = n) := ⟨hL, hNe, by omega⟩
 have hLN : L < N := by omega
 have hN2 : N ≤ 2000000 := by omega
 have hcp := Hd.mk (ex_copyBok hb1.out HB.out hL (by omega))
 obtain ⟨w2, hw2⟩ : ∃ w2, w1.setCells w.heap.size 0 (u8s l) = w2 := ⟨_, rfl⟩
 have hw2' := Hd.mk hw2
 clear hw2 hL hNe hb1
 rw [hw2'.out] at hcp
 go_enter Tryz.func115, Tryz.ntmps115
 go_wp2_with (first | (with_reducible refine wl_run rfl (ex_addk _ 3 3 (.tmp 8) (.tmp 9) rfl .i64 (L : Int) (n : Int) rfl rfl (N : Int) hN.out) ?_) | ((with_reducible refine wl_run rfl (ex_makeB _ (.tmp 10) (.tmp 10) N rfl rfl rfl (by omega)) ?_); rw [hw1'.out]) | (with_reducible refine wl_run rfl (hcp.out.1 (.tmp 12) (.tmp 13) rfl rfl rfl) ?_))
 have hS : Hd ((fun W : World => True) w2.drew) := ⟨trivial⟩
 refine rn_begin (fun W : World => True) (List.range 7) (by kernel_rfl) ?_
 refine rnA 0 15 (.slice (some ⟨w.heap.size, 0, none⟩) N N) (rnM rfl rfl) hS.out ?_
 refine rnA 1 16 (.slice (some ⟨w.heap.size, 0, none⟩) N N) (rnM rfl rfl) hS.out ?_
 simp only [Act.put, uA, uB, uC]
 refine rnA 2 17 (.slice A L cA) (rnM rfl rfl) hS.out ?_
 refine rnA 3 18 (.int .i64 ((L : Nat) : Int)) (fun W hW => ex_len W 22 _ rfl U22 _ L cA rfl) hS.out ?_
 simp only [Act.put, uA, uB, uC]
 refine rnA 4 19 (.slice (some ⟨w.heap.size, L, none⟩) (N - L) (N - L)) (fun W hW => er_cutLo W 22 _ _ rfl U22 1 inf5r w.heap.size 0 N N L L (by omega) rfl .i64 rfl (by omega) (by omega)) hS.out ?_
 refine rnA 5 4 (.slice (some ⟨w.heap.size, 0, none⟩) N N) (fun W hW => ex_assign W _ _ rfl rfl) hS.out ?_
 simp only [Act.put, uA, uB, uC]
 refine rnA 6 5 (.slice (some ⟨w.heap.size, L, none⟩) (N - L) (N - L)) (fun W hW => ex_assign W _ _ rfl rfl) hS.out ?_
 simp only [Act.put, uA, uB, uC]
 refine rn_done (by kernel_rfl) ?_ _
 clear hS
 go_wp2_with fail
 rw [hLn.out.2.2]
 go_ret2
 obtain ⟨l', h1, h2, h3⟩ := hcp.out.2
 exact ⟨l', by rw [hLn.out.2.1]; rfl, h1, by rw [h2, hLn.out.2.1], (k1.out.andThen h3 (fun i hi e => by omega)).drew⟩
def OwB (L : Nat) (w w' : World) (e : Ending) : Prop := ∃ v l, e = .returned v ∧ Ob w.heap.size w' v l ∧ l.length = L ∧ KZ w w'
theorem Ob.of_blk {w : World} {b B N : Nat} {l : List Int} (h : Blk w B (u8s l) 5) (hN : l.length = N) (hb : b ≤ B) (hm : N ≤ 2000000) : Ob b w (.slice (some ⟨B, 0, none⟩) N N) l := by
 subst hN
 exact ⟨⟨by simp, .inr ⟨B, l.length, (u8s l).toArray, rfl, Nat.zero_le _, h, Nat.le_refl _, by simp only [maxLen]; omega, by simp, by simp only [Nat.mul_one]; exact List.take_of_length_le (by simp)⟩⟩, fun k hk => by cases hk; exact hb⟩
set_option maxHeartbeats 2000000 in
theorem wide_at {w : World} {v : Value} (l : List Int) (hB : Bs w v l) (z : Int) (hl : l.length ≤ 100000) : Calls Tryz.prog 114 #[v, .int .u64 z, .int .i64 2] w fun e w' => OwB (l.length + 2) w w' e := by
 have hg := Hd.mk (grown_at l hB 2 (by omega) (by omega) (by omega))
 generalize l.length = L at *
 clear hB
 go_enter Tryz.func114, Tryz.ntmps114
 go_wp2_with fail
 refine hg.out.mono ?_
 rintro e w1 ⟨l1, rfl, hb1, hl1, k1⟩
 obtain ⟨B, hB⟩ : ∃ B, w.heap.size = B := ⟨_, rfl⟩
 rw [hB] at hb1 ⊢
 have hB' := Hd.mk hB
 clear hB
 have k1 := Hd.mk k1
 have hb1 := Hd.mk hb1
 go_wp2_with fail
 go_loopw [17] (fun v17 wr => ∃ i : Nat, v17 = .int .i64 i ∧ i ≤ 2 ∧ Hd (∃ l', Blk wr B (u8s l') 5 ∧ l'.length = L + 2 ∧ KZ w wr)) (fun v17 _ => 2 - (intOf v17).toNat)
 case atStart => exact ⟨0, rfl, Nat.zero_le _, ⟨l1, hb1.out, hl1, k1.out⟩⟩
 case round =>
  obtain ⟨i, rfl, hi, HI⟩ := hrel
  obtain ⟨l', hb, hl', hk⟩ := HI.out
  have hi3 : i = 0 ∨ i = 1 ∨ i = 2 := by omega
  rcases hi3 with rfl | rfl | rfl
  ·obtain ⟨u, c0⟩ : ∃ u, wr.cell? ⟨B, L + 1, none⟩ = some u := ⟨_, (hb.cell (L + 1)).trans (List.getElem?_eq_getElem (by simp; omega))⟩
   have f0 : wr.frozen? ⟨B, L + 1, none⟩ = false := hb.free (L + 1)
   have hb := Hd.mk hb
   go_wp2_with fail
   refine And.intro (Exists.intro (0 + 1) ⟨by go_num, by omega, ⟨?_⟩⟩) (by simp [intOf])
   obtain ⟨l2, h1, h2⟩ := set_u8s (l := l') (i := L + 1) (n := _)
   exact ⟨l2, by rw [← h1]; exact hb.out.set (L + 1) _, by rw [h2]; exact hl', hk.setCell _ _ (.inl (by show w.heap.size ≤ B; rw [hB'.out]; exact Nat.le_refl _))⟩
  ·obtain ⟨u, c0⟩ : ∃ u, wr.cell? ⟨B, L, none⟩ = some u := ⟨_, (hb.cell (L)).trans (List.getElem?_eq_getElem (by simp; omega))⟩
   have f0 : wr.frozen? ⟨B, L, none⟩ = false := hb.free (L)
   have hb := Hd.mk hb
   go_wp2_with fail
   refine And.intro (Exists.intro (1 + 1) ⟨by go_num, by omega, ⟨?_⟩⟩) (by simp [intOf])
   obtain ⟨l2, h1, h2⟩ := set_u8s (l := l') (i := L) (n := _)
   exact ⟨l2, by rw [← h1]; exact hb.out.set (L) _, by rw [h2]; exact hl', hk.setCell _ _ (.inl (by show w.heap.size ≤ B; rw [hB'.out]; exact Nat.le_refl _))⟩
  ·have hb := Hd.mk hb
   go_wp2_with fail
   go_ret
   exact ⟨_, l', rfl, Ob.of_blk hb.out hl' (by rw [hB'.out]; exact Nat.le_refl _) (by omega), hl', hk⟩
theorem u16_at {w : World} {v : Value} (l : List Int) (hB : Bs w v l) (z : Int) (hl : l.length ≤ 100000) : Calls Tryz.prog 89 #[v, .int .u16 z] w fun e w' => OwB (l.length + 2) w w' e := by
 have hg := Hd.mk (fun z => wide_at l hB z hl)
 generalize l.length = L at *
 clear hB
 go_enter Tryz.func89, Tryz.ntmps89
 go_wp2_with fail
 refine (hg.out _).mono ?_
 rintro e w1 ⟨v1, l1, rfl, hb1, hl1, k1⟩
 have hb1 := Hd.mk hb1
 have k1 := Hd.mk k1
 go_wp2_with fail
 go_ret
 exact ⟨_, l1, rfl, hb1.out, hl1, k1.out⟩
def OwB2 (L : Nat) (w w' : World) (e : Ending) : Prop := ∃ v l, e = .returned (.tuple #[v, .int .i64 0]) ∧ Ob w.heap.size w' v l ∧ l.length = L ∧ KZ w w'
set_option maxHeartbeats 2000000 in
theorem text_at {w : World} {v vt : Value} (l lt : List Int) (hB : Bs w v l) (hT : Bs w vt lt) (hl : l.length ≤ 100000) (ht : lt.length ≤ 255) (ht1 : 1 ≤ lt.length) : Calls Tryz.prog 90 #[v, vt] w fun e w' => OwB2 (l.length + (1 + lt.length)) w w' e := by
 have hg := Hd.mk (grown_at l hB (1 + lt.length) (by omega) (by omega) (by omega))
 obtain ⟨T, hTe⟩ : ∃ T, lt.length = T := ⟨_, rfl⟩
 obtain ⟨AT, cT, rfl, _⟩ : ∃ A c, vt = .slice A lt.length c ∧ True := by
  obtain ⟨A, c, rfl, _⟩ := hT
  exact ⟨A, c, rfl, trivial⟩
 rw [hTe] at hg hT ht ht1 ⊢
 have hTe' := Hd.mk hTe
 have hT' := Hd.mk hT
 generalize l.length = L at *
 clear hB hTe hT
 have htI : ¬ (255 : Int) < (T : Int) := by omega
 have ht0 : ¬ T = 0 := by omega
 have h1T : Hd (IntKind.i64.wrap (1 + (T : Int)) = ((1 + T : Nat) : Int)) := ⟨by rw [w64 (by omega)]; omega⟩
 go_enter Tryz.func90, Tryz.ntmps90
 go_wp2_with (first | (with_reducible refine wl_run rfl (ex_addk _ 3 3 (.const (.int .i64 1)) (.tmp 14) rfl .i64 1 (T : Int) rfl rfl _ h1T.out) ?_))
 refine hg.out.mono ?_
 rintro e w1 ⟨l1, rfl, hb1, hl1, k1⟩
 obtain ⟨B, hB⟩ : ∃ B, w.heap.size = B := ⟨_, rfl⟩
 rw [hB] at hb1 ⊢
 have hB' := Hd.mk hB
 clear hB
 obtain ⟨l2, e2, hl2⟩ := set_u8s (l := l1) (i := L) (n := (T : Int))
 have hb2 : Hd (Blk (w1.setCell ⟨B, L, none⟩ (.int .u8 (T : Int))) B (u8s l2) 5) := ⟨by rw [← e2]; exact hb1.set L _⟩
 have k2 : Hd (KZ w (w1.setCell ⟨B, L, none⟩ (.int .u8 (T : Int)))) := ⟨k1.setCell _ _ (.inl (by show w.heap.size ≤ B; rw [hB'.out]; exact Nat.le_refl _))⟩
 have hT2 := Hd.mk (bs_kpz hT'.out k2.out)
 obtain ⟨u, c0⟩ : ∃ u, w1.cell? ⟨B, L, none⟩ = some u := ⟨_, (hb1.cell L).trans (List.getElem?_eq_getElem (by simp; omega))⟩
 have f0 : w1.frozen? ⟨B, L, none⟩ = false := hb1.free L
 have hn2 : Hd (L + 1 + lt.length ≤ (u8s l2).length ∧ lt.length ≤ T) := ⟨by rw [hTe'.out]; simp only [u8s_length, hl2, hl1]; omega⟩
 obtain ⟨l3, h31, h32⟩ := splice_u8s (old := l2) (l := lt) (off := L + 1) (by have := hn2.out.1; simpa using this)
 have hb3 : Hd (Blk ((w1.setCell ⟨B, L, none⟩ (.int .u8 (T : Int))).setCells B (L + 1) (u8s lt)) B (u8s l3) 5) := ⟨by rw [← h31]; exact hb2.out.setCells (u8s lt) (L + 1) (by have := hn2.out.1; simpa using this)⟩
 have k3 : Hd (KZ w ((w1.setCell ⟨B, L, none⟩ (.int .u8 (T : Int))).setCells B (L + 1) (u8s lt))) := ⟨Kp.setCells B (.inl (by rw [hB'.out]; exact Nat.le_refl _)) _ _ k2.out⟩
 have hl3 : Hd (l3.length = L + (1 + T)) := ⟨by rw [h32, hl2, hl1]⟩
 clear hb1 k1 e2 hl2 h31 h32 hl1
 go_wp2_with (first | (with_reducible refine wl_run rfl (ex_copyB (v := .slice AT T cT) _ (.tmp 25) (.tmp 26) rfl B (L + 1) T T lt (u8s l2) rfl rfl hT2.out hn2.out.2 hb2.out hn2.out.1) ?_))
 go_ret2
 exact ⟨_, l3, rfl, Ob.of_blk hb3.out hl3.out (by rw [hB'.out]; exact Nat.le_refl _) (by omega), hl3.out, k3.out⟩
end Go.Proofs.YtkcechpaeilaeaaGreatDoor
namespace Go.Proofs.YtkcechpaeilaeaaGreatDoor
open Go.RowKit
set_option maxRecDepth 100000
def slen (ss : List (List UInt8)) : Nat := (ss.map (fun l => 1 + l.length)).sum
theorem slen_take {ss : List (List UInt8)} {k : Nat} {l : List UInt8} (h : ss[k]? = some l) : slen (ss.take (k + 1)) = slen (ss.take k) + (1 + l.length) := by
 obtain ⟨hk, rfl⟩ := List.getElem?_eq_some_iff.1 h
 unfold slen
 rw [List.take_succ_eq_append_getElem hk, List.map_append, List.sum_append]
 simp
def bOk (fl : List Fo) (ss : List (List UInt8)) (cap : Int) : Prop := mayC fl ss cap ∧ 3 + 5 * fl.length + slen ss ≤ 240
theorem okW_len {fl : List Fo} {cap : Int} {l : List UInt8} (h : okW fl cap l) (hc : cap ≤ 12) : 1 ≤ l.length ∧ l.length ≤ 24 := by
 obtain ⟨rs, h1, h2, h3, h4⟩ := h
 have := h1.bytes (fun r hr => (h2 r hr).1)
 refine ⟨?_, by omega⟩
 cases h1 with
 | nil => simp at h3
 | step hs _ => have := hs.1; have := hs.2.1; omega
def BcR (p : Prop) (w w' : World) (e : Ending) : Prop := (∃ v c, e = .returned (.tuple #[v, .int .i64 c]) ∧ (c = 0 ↔ p) ∧ (c = 0 ∨ c = 3 ∨ c = 140)) ∧ KZ w w'
theorem Ob.mono {b b' : Nat} {w : World} {v : Value} {l : List Int} (h : Ob b' w v l) (hb : b ≤ b') : Ob b w v l := ⟨h.own, fun k hk => Nat.le_trans hb (h.new k hk)⟩
theorem Kp.of_below' {w1 a b : World} (h : Below w1.heap.size a b) : Kp (fun k => w1.heap.size ≤ k) a b := ⟨h.os, h.tape, h.output, h.size, fun k hk hn => h.block k (by omega)⟩
structure Wb (b : Nat) (w1 wr : World) (v : Value) (n : Nat) : Prop where
 ob : ∃ l, Ob b wr v l ∧ l.length = n
 kp : KZ w1 wr
set_option maxHeartbeats 8000000 in
theorem wbytes_at {w : World} {AF AS : Option Addr} {cF cS : Nat} (fl : List Fo) (ss : List (List UInt8)) (cap : Int) (hwf : ∀ x ∈ fl, (-2147483648 ≤ x.f ∧ x.f ≤ 2147483647) ∧ (-2147483648 ≤ x.t ∧ x.t ≤ 2147483647)) (hss : ∀ l ∈ ss, l.length ≤ 2000000)
  (hF : Fr w (.slice AF fl.length cF) fl) (hS : Wos w (.slice AS ss.length cS) ss) :
  Calls Tryz.prog 67 #[.agg #[.slice AF fl.length cF, .slice AS ss.length cS, .int .i64 cap]] w fun e w' => BcR (bOk fl ss cap) w w' e := by
 obtain ⟨nf, hnf⟩ : ∃ n, fl.length = n := ⟨_, rfl⟩
 obtain ⟨ns, hns⟩ : ∃ n, ss.length = n := ⟨_, rfl⟩
 obtain ⟨w1, hw1⟩ : ∃ w1, w.alloc (.cells #[.slice AF nf cF, .slice AS ns cS, .int .i64 cap] 50) = w1 := ⟨_, rfl⟩
 have k01 : Hd (KZ w w1) := ⟨by rw [← hw1]; exact (Kp.refl _ w).alloc _⟩
 have hfc := Hd.mk (wmay_at (w := w1) fl ss cap hwf hss (hF.keep k01.out) (hS.keep k01.out))
 have hbx : Hd (∀ w', KZ w1 w' → (w'.cell? ⟨w.heap.size, 0, none⟩ = some (.slice AF nf cF) ∧ w'.cell? ⟨w.heap.size, 1, none⟩ = some (.slice AS ns cS) ∧ w'.cell? ⟨w.heap.size, 2, none⟩ = some (.int .i64 cap)) ∧ w'.rangeAt w.heap.size 0 [.slice AF nf cF, .slice AS ns cS, .int .i64 cap]) := ⟨fun w' hk => by
  rw [← hw1] at hk
  exact ⟨box3 _ _ _ _ _ _ hk, box3r _ _ _ _ _ _ hk⟩⟩
 have HF := Hd.mk (hF.keep k01.out)
 have HS := Hd.mk (hS.keep k01.out)
 rw [hnf] at HF
 rw [hns] at HS
 rw [hnf, hns] at hfc ⊢
 have hnf' := Hd.mk hnf
 have hns' := Hd.mk hns
 clear hnf hns
 have hnf := hnf'
 have hns := hns'
 clear hnf' hns'
 clear hwf hF hS hss
 have br0 : Hd ((w.alloc (.cells #[.slice AF nf cF, .slice AS ns cS, .int .i64 cap] 50)).rangeAt w.heap.size 0 [.slice AF nf cF, .slice AS ns cS, .int .i64 cap]) := ⟨by rw [hw1]; exact (hbx.out w1 (Kp.refl _ _)).2⟩
 have hwq := Hd.mk hw1
 clear hw1
 go_enter Tryz.func67, Tryz.ntmps67
 go_wp2_with (first | (with_reducible refine wl_load_mid rfl 50 (.tmp 1) rfl w.heap.size 0 rfl [.slice AF nf cF, .slice AS ns cS, .int .i64 cap] br0.out Tryz.underlying50 rfl (by kernel_rfl) ?_))
 rw [hwq.out]
 refine hfc.out.mono ?_
 rintro e w2 ⟨⟨b, rfl, hb⟩, k2⟩
 have K2 := Hd.mk k2
 obtain ⟨⟨d0, d1, d2⟩, _⟩ := hbx.out w2 k2
 clear k2 hfc br0
 cases b
 ·have hb := Hd.mk hb
  go_wp2_with fail
  go_ret2
  exact ⟨⟨_, 140, rfl, ⟨fun h => (by cases h), fun h => (by have := hb.out.2 h.1; cases this)⟩, .inr (.inr rfl)⟩, k01.out.th K2.out⟩
 ·have hmay := Hd.mk (hb.1 rfl)
  clear hb
  obtain ⟨hm1, ⟨hm2, hm3⟩, hm4, hm5⟩ := hmay.out
  have hnf8 : nf ≤ 8 := by have := hm1.1; have := hnf.out; omega
  have hns32 : ns ≤ 32 := by have := hns.out; omega
  have hok := Hd.mk (fok_of hm1.2.1)
  have hsl : Hd (∀ (k : Nat) (l : List UInt8), ss[k]? = some l → 1 ≤ l.length ∧ l.length ≤ 24) := ⟨fun k l hl => okW_len (hm5 k (List.getElem?_eq_some_iff.1 hl).1 l hl).1 hm3⟩
  clear hm1 hm4 hm5
  obtain ⟨z1, hz1⟩ : ∃ z, Hd (IntKind.u8.wrap cap = z) := ⟨_, ⟨rfl⟩⟩
  obtain ⟨z2, hz2⟩ : ∃ z, Hd (IntKind.u8.wrap (nf : Int) = z) := ⟨_, ⟨rfl⟩⟩
  have hO0 : Hd (Wb w1.heap.size w1 (w2.alloc (.cells #[.int .u8 z1, .int .u8 z2] 5)) (.slice (some ⟨w2.heap.size, 0, none⟩) 2 2) 2) := ⟨⟨[z1, z2], Ob.of_blk (Blk.new w2 _ 5) rfl K2.out.size (by omega), rfl⟩, K2.out.alloc _⟩
  obtain ⟨w3, hw3⟩ : ∃ w3, w2.alloc (.cells #[.int .u8 z1, .int .u8 z2] 5) = w3 := ⟨_, rfl⟩
  rw [hw3] at hO0
  obtain ⟨⟨e0, e1, e2⟩, _⟩ := hbx.out w3 hO0.out.kp
  rw [← hw3] at e0 e1 e2
  have hw3' := Hd.mk hw3
  clear hw3
  go_wp2_with (first | (with_reducible refine wl_run rfl (ex_convz _ 3 5 (.tmp 14) rfl (by kernel_rfl) .u8 U5 .i64 cap z1 rfl hz1.out) ?_) | (with_reducible refine wl_run rfl (ex_convz _ 3 5 (.tmp 18) rfl (by kernel_rfl) .u8 U5 .i64 (nf : Int) z2 rfl hz2.out) ?_))
  rw [hw3'.out]
  clear e0 e1 e2 d0 d1 d2
  go_loopw [4, 24] (fun v4 v24 wr => ∃ k : Nat, v24 = .int .i64 k ∧ k ≤ nf ∧ Hd (Wb w1.heap.size w1 wr v4 (2 + 5 * k))) (fun _ v24 _ => nf - (intOf v24).toNat)
  case atStart => exact ⟨0, rfl, Nat.zero_le _, hO0⟩
  case round =>
   clear hO0
   obtain ⟨k, rfl, hk, HK⟩ := hrel
   by_cases h1 : k < nf
   ·have hltI : (k : Int) < (nf : Int) := by omega
    obtain ⟨x, hx⟩ : ∃ x, fl[k]? = some x := ⟨_, List.getElem?_eq_getElem (by rw [hnf.out]; exact h1)⟩
    obtain ⟨g, o, rfl, hr⟩ := (HF.out.keep HK.out.kp).row hx
    obtain ⟨⟨q1, q2⟩, _⟩ := hok.out x (List.mem_of_getElem? hx)
    obtain ⟨f, t, m⟩ := x
    simp only at hr q1 q2
    have hr := Hd.mk hr
    clear hx
    obtain ⟨zf, hzf⟩ : ∃ z, Hd (IntKind.u16.wrap f = z) := ⟨_, ⟨rfl⟩⟩
    obtain ⟨zt, hzt⟩ : ∃ z, Hd (IntKind.u16.wrap t = z) := ⟨_, ⟨rfl⟩⟩
    obtain ⟨zm, hzm⟩ : ∃ z, Hd (IntKind.u8.wrap (m - 1) = z) := ⟨_, ⟨rfl⟩⟩
    have hm1 : Hd (IntKind.i64.wrap (m - 1) = m - 1) := ⟨w64 (by omega)⟩
    obtain ⟨d0, d1, d2⟩ := row3_new wr (.int .i32 f) (.int .i32 t) (.int .i64 m) 100
    obtain ⟨l, hl, hll0⟩ := HK.out.ob
    obtain ⟨A4, c4, rfl, _⟩ := hl.bs
    obtain ⟨N, hNe⟩ : ∃ N, l.length = N := ⟨_, rfl⟩
    have hll : Hd (l.length = 2 + 5 * k) := ⟨hll0⟩
    rw [hNe] at hl HK ⊢
    clear hNe hll0
    obtain ⟨w4, hw4⟩ : ∃ w4, wr.alloc (.cells #[.int .i32 f, .int .i32 t, .int .i64 m] 100) = w4 := ⟨_, rfl⟩
    obtain ⟨Bf, hBf⟩ : ∃ B, wr.heap.size = B := ⟨_, rfl⟩
    have k4 : Hd (KZ wr w4) := ⟨by rw [← hw4]; exact (Kp.refl _ wr).alloc _⟩
    have hO4 := Hd.mk (hl.keep k4.out)
    rw [hw4, hBf] at d0 d1 d2
    have hS : Hd ((fun W : World => KZ w4 W ∧ W.cell? ⟨Bf, 0, none⟩ = some (.int .i32 f) ∧ W.cell? ⟨Bf, 1, none⟩ = some (.int .i32 t)) w4.drew) := ⟨⟨(Kp.refl _ _).drew, d0, d1⟩⟩
    have hd2 := Hd.mk d2
    have hw4' := Hd.mk hw4
    have hBf' := Hd.mk hBf
    clear d0 d1 d2 hw4 hBf hl
    go_wp2_with (first | (with_reducible refine wl_load_mid rfl 100 (.tmp 26) rfl g (o + k * 3) rfl [.int .i32 f, .int .i32 t, .int .i64 m] hr.out Tryz.underlying100 rfl (by kernel_rfl) ?_) | (with_reducible refine wl_alloc rfl 100 rfl [.int .i32 0, .int .i32 0, .int .i64 0] (zero100 _) ?_) | ((with_reducible refine wl_store_new rfl 100 (.tmp 6) (.tmp 27) rfl [.int .i32 0, .int .i32 0, .int .i64 0] [.int .i32 f, .int .i32 t, .int .i64 m] rfl rfl (by kernel_rfl) rfl (by simp [Value.oneCell']) ?_)))
    rw [show wr.alloc (.cells ([.int .i32 f, .int .i32 t, .int .i64 m] : List Value).toArray 100) = w4 from hw4'.out, hBf'.out]
    refine rn_begin (fun W : World => KZ w4 W ∧ W.cell? ⟨Bf, 0, none⟩ = some (.int .i32 f) ∧ W.cell? ⟨Bf, 1, none⟩ = some (.int .i32 t)) (List.range 10) (by kernel_rfl) ?_
    refine rnA 0 28 (.slice A4 N c4) (rnM rfl rfl) hS.out ?_
    refine rnA 1 29 (.pointer (some ⟨Bf, 0, none⟩)) (erF 100 0 _ rfl Bf 0 0 0 0 Tryz.underlying100 rfl) hS.out ?_
    simp only [Act.put, uA, uB, uC]
    refine rnA 2 30 (.int .i32 f) (fun W hW => ex_load W 21 _ _ rfl ⟨Bf, 0, none⟩ U21 rfl rfl (hW.2.1)) hS.out ?_
    refine rnA 3 31 (.int .u16 zf) (fun W hW => ex_convz W 21 118 _ rfl (by kernel_rfl) .u16 Tryz.underlying118 .i32 f zf rfl hzf.out) hS.out ?_
    simp only [Act.put, uA, uB, uC]
    refine rnA 5 33 (.pointer (some ⟨Bf, 1, none⟩)) (erF 100 1 _ rfl Bf 0 0 1 1 Tryz.underlying100 rfl) hS.out ?_
    refine rnA 6 34 (.int .i32 t) (fun W hW => ex_load W 21 _ _ rfl ⟨Bf, 1, none⟩ U21 rfl rfl (hW.2.2)) hS.out ?_
    simp only [Act.put, uA, uB, uC]
    refine rnA 7 35 (.int .u16 zt) (fun W hW => ex_convz W 21 118 _ rfl (by kernel_rfl) .u16 Tryz.underlying118 .i32 t zt rfl hzt.out) hS.out ?_
    simp only [Act.put, uA, uB, uC]
    generalize w4.drew = u0 at *
    have hO5 := Hd.mk (hO4.out.keep hS.out.1)
    refine rn_one (i := 4) (dst := some 32) rfl (by kernel_rfl) rfl rfl (fun K hK => ?_)
    refine ow_call 89 _ _ rfl Tryz.func89 (by kernel_rfl) (by kernel_rfl) [.slice A4 N c4, .int .u16 zf] rfl (u16_at l hO5.out.bs zf (by have := hll.out; omega)) ?_
    rintro e u1 ⟨v5, l5, rfl, hb5, hl5, k5⟩
    have hS1 : Hd ((fun W : World => KZ w4 W ∧ W.cell? ⟨Bf, 0, none⟩ = some (.int .i32 f) ∧ W.cell? ⟨Bf, 1, none⟩ = some (.int .i32 t)) u1) := ⟨⟨hS.out.1.th k5, k5.see hS.out.2.1 id, k5.see hS.out.2.2 id⟩⟩
    refine ⟨_, rfl, hK _ _ (fun _ => hS1.out) ?_⟩
    clear hK K hS hO4 hO5
    have hb5 := Hd.mk hb5
    simp only [Act.put, uA, uB, uC]
    refine rn_one (i := 8) (dst := some 36) rfl (by kernel_rfl) rfl rfl (fun K hK => ?_)
    refine ow_call 89 _ _ rfl Tryz.func89 (by kernel_rfl) (by kernel_rfl) [v5, .int .u16 zt] rfl (u16_at l5 hb5.out.bs zt (by have := hll.out; omega)) ?_
    rintro e u2 ⟨v6, l6, rfl, hb6, hl6, k6⟩
    have hS2 : Hd ((fun W : World => KZ w4 W ∧ W.cell? ⟨Bf, 0, none⟩ = some (.int .i32 f) ∧ W.cell? ⟨Bf, 1, none⟩ = some (.int .i32 t)) u2) := ⟨⟨hS1.out.1.th k6, k6.see hS1.out.2.1 id, k6.see hS1.out.2.2 id⟩⟩
    refine ⟨_, rfl, hK _ _ (fun _ => hS2.out) ?_⟩
    have KU := Hd.mk (HK.out.kp.th (k4.out.th hS2.out.1))
    have hs6 : Hd (w1.heap.size ≤ u1.heap.size ∧ w1.heap.size ≤ u2.heap.size) := ⟨by
     have h1 := (HK.out.kp.th (k4.out.th hS1.out.1)).size
     exact ⟨h1, Nat.le_trans h1 k6.size⟩⟩
    have hb6 := Hd.mk (hb6.mono hs6.out.1)
    have hl6' : Hd (l6.length = 2 + 5 * k + 4) := ⟨by have := hll.out; omega⟩
    have d2 : u2.cell? ⟨Bf, 2, none⟩ = some (.int .i64 m) := hS2.out.1.see hd2.out id
    clear hK K hS1 hb5 k5 k6 hl5 hl6
    have hS := hS2
    simp only [Act.put, uA, uB, uC]
    refine rnA 9 4 (v6) (fun W hW => ex_assign W _ _ rfl rfl) hS.out ?_
    simp only [Act.put, uA, uB, uC]
    refine rn_done (by kernel_rfl) ?_ _
    have hob := Hd.mk (hb6.out.keep ((Kp.refl (fun _ => False) u2).alloc (.cells #[.int .u8 zm] 5)))
    have hyb : Hd (Bs (u2.alloc (.cells #[.int .u8 zm] 5)) (.slice (some ⟨u2.heap.size, 0, none⟩) 1 1) [zm]) := ⟨fresh_Bs u2 5 [zm]⟩
    have hsz : Hd (w1.heap.size ≤ (u2.alloc (.cells #[.int .u8 zm] 5)).heap.size) := ⟨by rw [size_alloc']; have := hs6.out.2; omega⟩
    have hbd : Hd (l6.length + [zm].length ≤ 1000000000000) := ⟨by have := hl6'.out; simp only [List.length_cons, List.length_nil]; omega⟩
    have kal : Hd (KZ w1 (u2.alloc (.cells #[.int .u8 zm] 5))) := ⟨KU.out.alloc _⟩
    clear hS2 hS
    go_wp2_with (first | (with_reducible refine wl_run rfl (ex_subk _ 3 3 (.tmp 39) (.const (.int .i64 1)) rfl .i64 m 1 rfl rfl (m - 1) hm1.out) ?_) | (with_reducible refine wl_run rfl (ex_convz _ 3 5 (.tmp 40) rfl (by kernel_rfl) .u8 U5 .i64 (m - 1) zm rfl hzm.out) ?_) | ((with_reducible refine wl_ob rfl (.tmp 37) (.tmp 42) rfl v6 l6 rfl hob.out hsz.out (.slice (some ⟨u2.heap.size, 0, none⟩) 1 1) [zm] rfl hyb.out hbd.out ?_); intro v7 w7 h7 hb7; have h7 := Hd.mk h7; have hb7 := Hd.mk hb7))
    refine And.intro (Exists.intro (k + 1) ⟨by go_num, by omega, ⟨⟨⟨_, h7.out, ?_⟩, ?_⟩⟩⟩) (by simp [intOf]; omega)
    ·rw [List.length_append, hl6'.out]
     simp only [List.length_cons, List.length_nil]
     omega
    ·exact kal.out.andThen (Kp.of_below' hb7.out) (fun i hi e => by omega)
   ·have hltI : ¬ (k : Int) < (nf : Int) := by omega
    obtain rfl : k = nf := by omega
    obtain ⟨l, hl, hll0⟩ := HK.out.ob
    obtain ⟨A4, c4, rfl, _⟩ := hl.bs
    obtain ⟨N, hNe⟩ : ∃ N, l.length = N := ⟨_, rfl⟩
    have hll : Hd (l.length = 2 + 5 * k) := ⟨hll0⟩
    rw [hNe] at hl ⊢
    clear hNe hll0
    obtain ⟨zs, hzs⟩ : ∃ z, Hd (IntKind.u8.wrap (ns : Int) = z) := ⟨_, ⟨rfl⟩⟩
    have hob := Hd.mk (hl.keep ((Kp.refl (fun _ => False) wr).alloc (.cells #[.int .u8 zs] 5)))
    have hyb : Hd (Bs (wr.alloc (.cells #[.int .u8 zs] 5)) (.slice (some ⟨wr.heap.size, 0, none⟩) 1 1) [zs]) := ⟨fresh_Bs wr 5 [zs]⟩
    have hsz : Hd (w1.heap.size ≤ (wr.alloc (.cells #[.int .u8 zs] 5)).heap.size) := ⟨by rw [size_alloc']; have := HK.out.kp.size; omega⟩
    have hbd : Hd (l.length + [zs].length ≤ 1000000000000) := ⟨by have := hll.out; simp only [List.length_cons, List.length_nil]; omega⟩
    obtain ⟨⟨_, d1, _⟩, _⟩ := hbx.out wr HK.out.kp
    have kal : Hd (KZ w1 (wr.alloc (.cells #[.int .u8 zs] 5))) := ⟨HK.out.kp.alloc _⟩
    clear hl
    go_wp2_with (first | (with_reducible refine wl_run rfl (ex_convz _ 3 5 (.tmp 48) rfl (by kernel_rfl) .u8 U5 .i64 (ns : Int) zs rfl hzs.out) ?_) | ((with_reducible refine wl_ob rfl (.tmp 45) (.tmp 50) rfl (.slice A4 N c4) l rfl hob.out hsz.out (.slice (some ⟨wr.heap.size, 0, none⟩) 1 1) [zs] rfl hyb.out hbd.out ?_); intro v7 w7 h7 hb7; have h7 := Hd.mk h7; have K7 := Hd.mk (kal.out.andThen (Kp.of_below' hb7) (fun i hi e => by omega)); clear hb7; obtain ⟨⟨_, f1, _⟩, _⟩ := hbx.out w7 K7.out))
    have hst0 : Hd (Wb w1.heap.size w1 w7 v7 (3 + 5 * k + slen (ss.take 0))) := ⟨⟨⟨_, h7.out, by rw [List.length_append, hll.out]; simp [slen]; omega⟩, K7.out⟩⟩
    have hsb : Hd (∀ i, i ≤ ns → slen (ss.take i) ≤ 25 * i) := ⟨fun i hi => by
     induction i with
     | zero => simp [slen]
     | succ i ih =>
      obtain ⟨x, hx⟩ : ∃ x, ss[i]? = some x := ⟨_, List.getElem?_eq_getElem (by rw [hns.out]; omega)⟩
      rw [slen_take hx]
      have := ih (by omega)
      have := hsl.out i x hx
      omega⟩
    clear h7 hob hyb hsz hbd kal hll HK f1
    go_loopw [4, 55] (fun v4 v55 wr => ∃ i : Nat, v55 = .int .i64 i ∧ i ≤ ns ∧ Hd (Wb w1.heap.size w1 wr v4 (3 + 5 * k + slen (ss.take i)))) (fun _ v55 _ => ns - (intOf v55).toNat)
    case atStart => exact ⟨0, rfl, Nat.zero_le _, hst0⟩
    case round =>
     clear hst0
     obtain ⟨i, rfl, hi, HI⟩ := hrel
     obtain ⟨l, hl, hll0⟩ := HI.out.ob
     obtain ⟨A4, c4, rfl, _⟩ := hl.bs
     obtain ⟨N, hNe⟩ : ∃ N, l.length = N := ⟨_, rfl⟩
     have hll : Hd (l.length = 3 + 5 * k + slen (ss.take i) ∧ l.length = N) := ⟨hll0, hNe⟩
     rw [hNe] at hl ⊢
     clear hNe hll0
     have hl := Hd.mk hl
     by_cases h2 : i < ns
     ·have hiI : (i : Int) < (ns : Int) := by omega
      obtain ⟨x, hx⟩ : ∃ x, ss[i]? = some x := ⟨_, List.getElem?_eq_getElem (by rw [hns.out]; exact h2)⟩
      obtain ⟨g, o, rfl, c1⟩ := (HS.out.keep HI.out.kp).cell hx
      have hxl := Hd.mk (hsl.out i x hx)
      have hst := Hd.mk (slen_take hx)
      clear hx
      go_wp2_with (first | ((with_reducible refine wl_tobytes rfl 9 22 5 (.tmp 61) rfl U9 U22 U5 x rfl ?_); intro vB w8 hB k8 _ _; have hB := Hd.mk hB; have k8 := Hd.mk k8))
      refine (text_at l (ints x) (hl.out.keep k8.out).bs hB.out (by have := hll.out; have := hsb.out i hi; omega) (by rw [ints_length]; have := hxl.out; omega) (by rw [ints_length]; exact hxl.out.1)).mono ?_
      rintro e w9 ⟨v9, l9, rfl, hb9, hl9, k9⟩
      have K9 := Hd.mk (HI.out.kp.th (k8.out.th k9))
      have hb9' := Hd.mk (hb9.mono (b := w1.heap.size) ((HI.out.kp.th k8.out).size))
      have hl9' := Hd.mk hl9
      clear hb9 k9 hl9 k8 hB c1
      go_wp2_with fail
      refine And.intro (Exists.intro (i + 1) ⟨by go_num, by omega, ⟨⟨⟨_, hb9'.out, ?_⟩, K9.out⟩⟩⟩) (by simp [intOf]; omega)
      rw [hl9'.out, ints_length, hst.out]
      have := hll.out
      omega
     ·have hiI : ¬ (i : Int) < (ns : Int) := by omega
      have hin : i = ns := by omega
      have hN : Hd (N = 3 + 5 * fl.length + slen ss) := ⟨by
       have := hll.out
       rw [List.take_of_length_le (by rw [hns.out]; omega)] at this
       have := hnf.out
       omega⟩
      have hNb : N ≤ 3 + 40 + 25 * 32 := by
       have := hll.out
       have := hsb.out i hi
       omega
      by_cases hbig : 240 < N
      ·have hbI : (240 : Int) < (N : Int) := by omega
       go_wp2_with fail
       go_ret2
       exact ⟨⟨_, 3, rfl, ⟨fun h => (by cases h), fun h => (by have := h.2; have := hN.out; omega)⟩, .inr (.inl rfl)⟩, k01.out.th HI.out.kp⟩
      ·have hbI : ¬ (240 : Int) < (N : Int) := by omega
       go_wp2_with fail
       go_ret2
       exact ⟨⟨_, 0, rfl, ⟨fun _ => ⟨hmay.out, by have := hN.out; omega⟩, fun _ => rfl⟩, .inl rfl⟩, k01.out.th HI.out.kp⟩
end Go.Proofs.YtkcechpaeilaeaaGreatDoor
namespace Go.Proofs.YtkcechpaeilaeaaGreatDoor
open Go.RowKit
set_option maxRecDepth 20000
section
variable {ops : Array Oper} {rest : List Oper} {o : Oper} {a : Act} {Q : Exit → Act → World → Prop} {K : Act → World → Prop}
theorem ow_ob2 {b : Nat} {w : World} (s x : Operand) (ho : o.op = .call { callee := .builtin .append, args := #[s, x], argTypes := #[22, 22] }) (v : Value) (xs : List Int) (hs : a.eval s = v) (hown : Ob b w v xs) (hb : b ≤ w.heap.size)
  (y : Value) (l : List Int) (hx : a.eval x = y) (hy : Bs w y l) (h63 : xs.length + l.length ≤ 1000000000000)
  (h : ∀ v' w', Ob b w' v' (xs ++ l) → Kp (fun k => v.ownBlock = some k) w w' → (∀ k, v'.ownBlock = some k → v.ownBlock = some k ∨ w.heap.size ≤ k) → K (a.put o.dst v') w') : o.wp Tryz.prog a w K Q :=
 ow_appendBs s x 22 ho 5 U22 info5b rfl v xs hs hown.own y l hx hy h63 (fun v' w' h1 h2 h3 => h v' w' ⟨h1, fun k hk => (h3 k hk).elim (hown.new k) (fun h => Nat.le_trans hb h)⟩ h2 h3)
theorem wl_ob2 {b : Nat} {w : World} (hg : o.guard = none) (s x : Operand) (ho : o.op = .call { callee := .builtin .append, args := #[s, x], argTypes := #[22, 22] }) (v : Value) (xs : List Int) (hs : a.eval s = v) (hown : Ob b w v xs) (hb : b ≤ w.heap.size)
  (y : Value) (l : List Int) (hx : a.eval x = y) (hy : Bs w y l) (h63 : xs.length + l.length ≤ 1000000000000)
  (h : ∀ v' w', Ob b w' v' (xs ++ l) → Kp (fun k => v.ownBlock = some k) w w' → (∀ k, v'.ownBlock = some k → v.ownBlock = some k ∨ w.heap.size ≤ k) → wpList Tryz.prog ops Q rest (a.put o.dst v') w') : wpList Tryz.prog ops Q (o :: rest) a w :=
 wpList_plain hg fun _ hK => ow_ob2 s x ho v xs hs hown hb y l hx hy h63 (fun v' w' a b c => hK _ _ (h v' w' a b c))
theorem ow_obS {b : Nat} {w : World} (s x : Operand) (ho : o.op = .call { callee := .builtin .append, args := #[s, x], argTypes := #[22, 9] }) (v : Value) (xs : List Int) (hs : a.eval s = v) (hown : Ob b w v xs) (hb : b ≤ w.heap.size)
  (l : List UInt8) (hx : a.eval x = .string ⟨l.toArray⟩) (h63 : xs.length + l.length ≤ 1000000000000)
  (h : ∀ v' w', Ob b w' v' (xs ++ ints l) → Below b w w' → K (a.put o.dst v') w') : o.wp Tryz.prog a w K Q := by
 have hown' : w.ownsRow b 5 1 v xs.length (u8s xs) := by
  refine ⟨by simp, ?_⟩
  rcases hown.own.2 with h1 | ⟨g, cap, cur, rfl, _, h2⟩
  ·exact .inl h1
  ·exact .inr ⟨g, cap, cur, rfl, hown.new g rfl, h2⟩
 have hsz : (⟨l.toArray⟩ : ByteArray).size = l.length := by simp [ByteArray.size]
 obtain ⟨i0, hi, hz0, hz1, hz2⟩ := info_parts info5y
 obtain ⟨v', w', hr, h2, h3, _⟩ := Lib.run_append_own_string (P := Tryz.prog) w b 22 9 o.type 5 i0 U22 U9 hi hz0 hz1 hz2 v xs.length (u8s xs) hown' ⟨l.toArray⟩ (by rw [hsz]; simp only [maxLen]; omega) (by rw [hsz]; omega) hb
 refine ow_run (v := v') (w' := w') (by
  unfold execOp
  simp only [ho, resolve, invoke, builtin, Sem.run_bind, Sem.run_pure, Result.andThen_ok, List.map_toArray, List.map_cons, List.map_nil, hs, hx, hr]) ?_
 have hcs : u8s xs ++ Lib.strCells ⟨l.toArray⟩ = u8s (xs ++ ints l) := by
  rw [u8s_append]
  congr 1
  simp [Lib.strCells, u8s, ints]
 rw [hcs, hsz] at h2
 refine h v' w' ⟨?_, ?_⟩ ?_
 ·refine ⟨by simp, ?_⟩
  rcases h2.2 with ⟨h1, h4⟩ | ⟨g, cap, cur, rfl, _, h4⟩
  ·exact .inl ⟨h1, by rw [List.length_append, ints_length]; exact h4⟩
  ·refine .inr ⟨g, cap, cur, by rw [List.length_append, ints_length], Nat.zero_le _, ?_⟩
   rw [List.length_append, ints_length]
   exact h4
 ·intro k hk
  rcases h2.2 with ⟨rfl, _⟩ | ⟨g, cap, cur, rfl, hg, _⟩
  ·cases hk
  ·injection hk with hk
   subst hk
   exact hg
 ·exact (Below.refl b w).grown h3 hb (fun k hk => hown.new k hk)
end
def TwR (b : Nat) (v : Value) (n : Nat) (w w' : World) (e : Ending) : Prop := ∃ v' l', e = .returned v' ∧ Ob b w' v' l' ∧ l'.length = n ∧ Kp (fun k => v.ownBlock = some k) w w' ∧ (∀ k, v'.ownBlock = some k → v.ownBlock = some k ∨ w.heap.size ≤ k)
set_option maxHeartbeats 2000000 in
theorem two_at {w : World} {b : Nat} {v : Value} (l : List Int) (hO : Ob b w v l) (hb : b ≤ w.heap.size) (n : Nat) (hn : n ≤ 100000) (hl : l.length ≤ 100000) : Calls Tryz.prog 117 #[v, .int .i64 (n : Int)] w fun e w' => TwR b v (l.length + 2) w w' e := by
 obtain ⟨z1, hz1⟩ : ∃ z, Hd (IntKind.u8.wrap ((n / 256 : Nat) : Int) = z) := ⟨_, ⟨rfl⟩⟩
 obtain ⟨z2, hz2⟩ : ∃ z, Hd (IntKind.u8.wrap ((n % 256 : Nat) : Int) = z) := ⟨_, ⟨rfl⟩⟩
 obtain ⟨A, c, rfl, _⟩ : ∃ A c, v = .slice A l.length c ∧ True := by
  obtain ⟨A, c, rfl, _⟩ := hO.bs
  exact ⟨A, c, rfl, trivial⟩
 have hob := Hd.mk (hO.keep ((Kp.refl (fun _ => False) w).alloc (.cells #[.int .u8 z1, .int .u8 z2] 5)))
 have hyb : Hd (Bs (w.alloc (.cells #[.int .u8 z1, .int .u8 z2] 5)) (.slice (some ⟨w.heap.size, 0, none⟩) 2 2) [z1, z2]) := ⟨fresh_Bs w 5 [z1, z2]⟩
 have hsz : Hd (b ≤ (w.alloc (.cells #[.int .u8 z1, .int .u8 z2] 5)).heap.size) := ⟨by rw [size_alloc']; omega⟩
 have hbd : Hd (l.length + [z1, z2].length ≤ 1000000000000) := ⟨by simp only [List.length_cons, List.length_nil]; omega⟩
 have hlt : Hd (∀ k, (Value.slice A l.length c).ownBlock = some k → k < w.heap.size) := ⟨fun k hk => by
  rcases hO.own.2 with ⟨e, _⟩ | ⟨g, cap, cur, e, _, hh, _⟩
  ·rw [e] at hk; cases hk
  ·rw [e] at hk
   injection hk with hk
   subst hk
   exact (Array.getElem?_eq_some_iff.1 hh).1⟩
 obtain ⟨N, hN⟩ : ∃ N, l.length = N := ⟨_, rfl⟩
 rw [hN] at hob hlt ⊢
 have hNq := Hd.mk hN
 clear hN hO
 go_enter Tryz.func117, Tryz.ntmps117
 go_wp2_with (first | (with_reducible refine wl_run rfl (ex_quoK _ 3 3 (.tmp 6) (.const (.int .i64 256)) rfl n 256 (by decide) (by omega) rfl rfl) ?_) | (with_reducible refine wl_run rfl (ex_remK _ 3 3 (.tmp 9) (.const (.int .i64 256)) rfl n 256 (by decide) (by omega) rfl rfl) ?_) | (with_reducible refine wl_run rfl (ex_convz _ 3 5 (.tmp 7) rfl (by kernel_rfl) .u8 U5 .i64 _ z1 rfl hz1.out) ?_) | (with_reducible refine wl_run rfl (ex_convz _ 3 5 (.tmp 10) rfl (by kernel_rfl) .u8 U5 .i64 _ z2 rfl hz2.out) ?_) | ((with_reducible refine wl_ob2 rfl (.tmp 5) (.tmp 12) rfl (.slice A N c) l rfl hob.out hsz.out (.slice (some ⟨w.heap.size, 0, none⟩) 2 2) [z1, z2] rfl hyb.out hbd.out ?_); intro v7 w7 h7 k7 n7; have h7 := Hd.mk h7; have k7 := Hd.mk k7; have n7 := Hd.mk n7))
 go_ret
 refine ⟨_, _, rfl, h7.out, by rw [List.length_append, hNq.out]; rfl, ((Kp.refl _ w).alloc _).andThen k7.out (fun i hi e => e), fun k hk => ?_⟩
 rcases n7.out k hk with h | h
 ·exact .inl h
 ·rw [size_alloc'] at h
  exact .inr (by omega)
end Go.Proofs.YtkcechpaeilaeaaGreatDoor
namespace Go.Proofs.YtkcechpaeilaeaaGreatDoor
open Go.RowKit
set_option maxRecDepth 20000
theorem info194b : (Tryz.prog.info? 194).map (fun i => (i.zero, i.size, i.bytes)) = some (some (.agg #[.int .i64 0, .int .i32 0]), 2, 16) := by kernel_rfl
theorem info21b : (Tryz.prog.info? 21).map (fun i => (i.zero, i.size, i.bytes)) = some (some (.int .i32 0), 1, 4) := by kernel_rfl
theorem inf5q : (Tryz.prog.info? 5).map (·.size) = some 1 := by kernel_rfl
def mcl (l : List (Nat × Nat)) : List Value := l.flatMap fun x => [.int .i64 (x.1 : Int), .int .i32 (x.2 : Int)]
theorem mcl_app (l : List (Nat × Nat)) (x : Nat × Nat) : mcl (l ++ [x]) = mcl l ++ [.int .i64 (x.1 : Int), .int .i32 (x.2 : Int)] := by simp [mcl]
theorem mcl_get : ∀ (l : List (Nat × Nat)) (k : Nat) (x : Nat × Nat), l[k]? = some x → (mcl l)[k * 2 + 1]? = some (.int .i32 (x.2 : Int))
 | y :: l, 0, x, h => by
  injection h with h
  subst h
  rfl
 | y :: l, k + 1, x, h => by
  have ih := mcl_get l k x h
  have e : mcl (y :: l) = [.int .i64 (y.1 : Int), .int .i32 (y.2 : Int)] ++ mcl l := rfl
  have hl : [(.int .i64 (y.1 : Int) : Value), .int .i32 (y.2 : Int)].length = 2 := rfl
  rw [e, List.getElem?_append_right (by rw [hl]; omega), hl, show (k + 1) * 2 + 1 - 2 = k * 2 + 1 by omega]
  exact ih
def icl (l : List Nat) : List Value := l.map fun (x : Nat) => Value.int .i32 ((x : Nat) : Int)
structure Rm (b : List UInt8) (w0 wr : World) (v : Value) (out : List (Nat × Nat)) (at' : Nat) : Prop where
 row : Or w0.heap.size 194 2 wr v out.length (mcl out)
 pf : Pf (out.map (·.2)) b (b.drop at')
 below : Below w0.heap.size w0 wr
def RsV (b : List UInt8) (w w' : World) (e : Ending) : Prop := ∃ v out, e = .returned v ∧ Or w.heap.size 194 2 w' v out.length (mcl out) ∧ Rs (out.map (·.2)) b ∧ out.length ≤ b.length ∧ KZ w w'
set_option maxHeartbeats 2000000 in
theorem rrunes_at {w : World} {A : Option Addr} {cp : Nat} (b : List UInt8) (hl : b.length ≤ 2000000) (hB : Bs w (.slice A b.length cp) (ints b)) : Calls Tryz.prog 152 #[.slice A b.length cp] w fun e w' => RsV b w w' e := by
 have HB := Hd.mk hB
 obtain ⟨n, hn⟩ : ∃ n, b.length = n := ⟨_, rfl⟩
 rw [hn] at HB hl ⊢
 have hn := Hd.mk hn
 have hcp : n ≤ cp := by
  obtain ⟨_, _, e, h, _⟩ := HB.out
  injection e with _ _ e3
  subst e3
  rw [ints_length] at h
  have := hn.out
  omega
 have hO0 := Hd.mk (Or.fresh w w.heap.size 194 2 (Nat.le_refl _))
 clear hB
 go_enter Tryz.func152, Tryz.ntmps152
 go_wp2_with fail
 go_loopw [3, 4] (fun v3 v4 wr => ∃ (out : List (Nat × Nat)) (i : Nat), v4 = .int .i64 i ∧ i ≤ n ∧ out.length ≤ i ∧ Hd (Rm b w wr v3 out i)) (fun _ v4 _ => n - (intOf v4).toNat)
 case atStart => exact ⟨[], 0, rfl, Nat.zero_le _, Nat.zero_le _, ⟨⟨hO0.out, Pf.nil _, (Below.refl _ w).alloc (Nat.le_refl _) _⟩⟩⟩
 case round =>
  clear hO0
  obtain ⟨out, i, rfl, hi, hoi, hR⟩ := hrel
  obtain ⟨A3, c3, rfl, _⟩ := hR.out.row.slice
  by_cases hlt : i < n
  ·have hltI : (i : Int) < (n : Int) := by omega
   have hBr : Bs wr (.slice A n cp) (ints b) := HB.out.keep (fun k hk _ => hR.out.below.block k hk)
   obtain ⟨g, o, rfl, hr⟩ : ∃ g o, A = some ⟨g, o, none⟩ ∧ wr.rangeAt g o (u8s (ints b)) := by
    obtain ⟨A', c', e, _, h⟩ := hBr
    injection e with e1
    subst e1
    rcases h with h | h
    ·have := congrArg List.length h
     rw [ints_length] at this
     have := hn.out
     simp only [List.length_nil] at *
     omega
    ·exact h
   have hdr : Hd (Bs wr (.slice (some ⟨g, o + i, none⟩) (b.drop i).length (cp - i)) (ints (b.drop i))) := ⟨by
    refine ⟨_, _, by rw [ints_length], by rw [ints_length, List.length_drop]; have := hn.out; omega, .inr ⟨g, o + i, rfl, fun j v hj => ?_⟩⟩
    have := hr (i + j) v (by
     rw [← hj]
     simp only [u8s, ints, List.getElem?_map, List.getElem?_drop])
    rwa [← Nat.add_assoc] at this⟩
   have hfi := Hd.mk (first_at (b.drop i) (fun e => by have := congrArg List.length e; rw [List.length_drop] at this; have := hn.out; simp only [List.length_nil] at *; omega) (by rw [List.length_drop]; have := hn.out; omega) hdr.out)
   have hdl : Hd ((b.drop i).length = n - i) := ⟨by rw [List.length_drop, hn.out]⟩
   rw [hdl.out] at hfi
   have hwr := Hd.mk hR.out.below.size
   clear hr hdr hBr
   go_wp2_with (first | (with_reducible refine wl_run rfl (er_cutLo _ 22 (.tmp 13) (.tmp 14) rfl U22 1 inf5q g o n cp i (o + i) (by omega) rfl .i64 rfl (by omega) (by omega)) ?_))
   refine hfi.out.mono ?_
   rintro e w1 ⟨v, m, rfl, hm1, hm2, hvb, hst, k1⟩
   have hO := Hd.mk ((hR.out.row.keep k1).keep (kp_alloc w1 (.cells #[.int .i64 (i : Int), .int .i32 (v : Int)] 194)))
   have hw1 : Hd (w.heap.size ≤ (w1.alloc (.cells #[.int .i64 (i : Int), .int .i32 (v : Int)] 194)).heap.size) := ⟨by rw [size_alloc]; exact Nat.le_succ_of_le (Nat.le_trans hwr.out k1.size)⟩
   have hb1 : Hd (Below w.heap.size w (w1.alloc (.cells #[.int .i64 (i : Int), .int .i32 (v : Int)] 194))) := ⟨(hR.out.below.trans (k1.toBelow hwr.out (fun _ h => h.elim))).alloc (Nat.le_trans hwr.out k1.size) _⟩
   have hss : Hd (Stp (b.drop i) v m) := ⟨⟨hm1, by rw [hdl.out]; rw [hdl.out] at hm2; exact hm2, hvb, hst⟩⟩
   have hmn : m ≤ n - i := by rw [hdl.out] at hm2; exact hm2
   have hmI : Hd (out.length ≤ 1000000000) := ⟨by omega⟩
   have himI : (i : Int) + (m : Int) ≤ 2000000 := by omega
   clear hst k1 hfi hm2
   go_wp2_with (first | ((with_reducible refine wl_or2 rfl (.tmp 19) (.tmp 23) 191 rfl 194 2 16 Tryz.underlying191 info194b rfl (by decide) (by decide) _ _ _ rfl hO.out hw1.out w1.heap.size 1 [.int .i64 (i : Int), .int .i32 (v : Int)] rfl rfl (two_new _ _ _ _) (by simp [Value.oneCell']) hmI.out ?_); intro v' w2 ho hb2 hkp hnn; have ho := Hd.mk ho; have hb2 := Hd.mk hb2; clear hkp hnn))
   refine ⟨⟨out ++ [(i, v)], i + m, by go_num, by omega, by rw [List.length_append]; simp only [List.length_cons, List.length_nil]; omega, ⟨⟨by rw [mcl_app, List.length_append]; exact ho.out, ?_, hb1.out.trans hb2.out⟩⟩⟩, by simp [intOf]; omega⟩
   have := hR.out.pf.next hss.out
   rw [List.drop_drop] at this
   rw [List.map_append]
   exact this
  ·have hltI : ¬ (i : Int) < (n : Int) := by omega
   obtain rfl : i = n := by omega
   go_wp2_with fail
   go_ret
   refine ⟨_, out, rfl, hR.out.row, ?_, by rw [hn.out]; exact hoi, Kp.of_below hR.out.below _⟩
   have := hR.out.pf
   rw [show b.drop i = [] from List.drop_of_length_le (by rw [hn.out]; exact Nat.le_refl _)] at this
   exact this.end
theorem icl_app (l : List Nat) (x : Nat) : icl (l ++ [x]) = icl l ++ [.int .i32 (x : Int)] := by simp [icl]
structure Ri (w0 wr : World) (v : Value) (rs : List Nat) : Prop where
 row : Or w0.heap.size 21 1 wr v rs.length (icl rs)
 below : Below w0.heap.size w0 wr
def RiV (b : List UInt8) (w w' : World) (e : Ending) : Prop := ∃ v rs, e = .returned v ∧ Or w.heap.size 21 1 w' v rs.length (icl rs) ∧ Rs rs b ∧ rs.length ≤ b.length ∧ KZ w w'
set_option maxHeartbeats 2000000 in
theorem runes_at {w : World} {A : Option Addr} {cp : Nat} (b : List UInt8) (hl : b.length ≤ 2000000) (hB : Bs w (.slice A b.length cp) (ints b)) : Calls Tryz.prog 136 #[.slice A b.length cp] w fun e w' => RiV b w w' e := by
 have hc := Hd.mk (rrunes_at b hl hB)
 clear hB
 obtain ⟨bl, hbl⟩ : ∃ n, b.length = n := ⟨_, rfl⟩
 rw [hbl] at hc hl ⊢
 have hbl := Hd.mk hbl
 go_enter Tryz.func136, Tryz.ntmps136
 go_wp2_with fail
 refine hc.out.mono ?_
 rintro e w1 ⟨v, out, rfl, hO, hrs, hol, k1⟩
 obtain ⟨A1, c1, rfl, _⟩ := hO.slice
 have hcells : Hd (∀ (k : Nat) (x : Nat × Nat), out[k]? = some x → ∃ g, A1 = some ⟨g, 0, none⟩ ∧ w1.cell? ⟨g, k * 2 + 1, none⟩ = some (.int .i32 (x.2 : Int)) ∧ g < w1.heap.size) := ⟨fun k x hx => by
  obtain ⟨g, hA, hr, _, hg⟩ := hO.at (by have := (List.getElem?_eq_some_iff.1 hx).1; omega)
  have := hr _ _ (mcl_get out k x hx)
  rw [Nat.zero_add] at this
  exact ⟨g, hA, this, hg⟩⟩
 have hrs := Hd.mk hrs
 have K1 := Hd.mk k1
 obtain ⟨n, hn⟩ : ∃ n, out.length = n := ⟨_, rfl⟩
 rw [hn] at hol ⊢
 rw [hbl.out] at hol
 have hn := Hd.mk hn
 clear hO k1 hc
 go_wp2_with fail
 go_loopw [3, 5] (fun v3 v5 wr => ∃ i : Nat, v5 = .int .i64 i ∧ i ≤ n ∧ Hd (Ri w1 wr v3 ((out.take i).map (·.2)))) (fun _ v5 _ => n - (intOf v5).toNat)
 case atStart => exact ⟨0, rfl, Nat.zero_le _, ⟨⟨Or.nil _ _ _ _, Below.refl _ _⟩⟩⟩
 case round =>
  obtain ⟨i, rfl, hi, hR⟩ := hrel
  have hln : Hd (((out.take i).map (·.2)).length = i) := ⟨by rw [List.length_map, List.length_take]; have := hn.out; omega⟩
  obtain ⟨rs, hrse⟩ : ∃ rs, Hd ((out.take i).map (·.2) = rs) := ⟨_, ⟨rfl⟩⟩
  rw [hrse.out] at hR hln
  obtain ⟨A3, c3, rfl, _⟩ := hR.out.row.slice
  by_cases hlt : i < n
  ·have hltI : (i : Int) < (n : Int) := by omega
   obtain ⟨x, hx⟩ : ∃ x, out[i]? = some x := ⟨_, List.getElem?_eq_getElem (by rw [hn.out]; exact hlt)⟩
   obtain ⟨g, rfl, hc1, hg⟩ := hcells.out i x hx
   have d0 := bsee hR.out.below hc1 hg
   have htk : Hd ((out.take (i + 1)).map (·.2) = (out.take i).map (·.2) ++ [x.2]) := ⟨by
    obtain ⟨h1, rfl⟩ := List.getElem?_eq_some_iff.1 hx
    rw [List.take_succ_eq_append_getElem h1, List.map_append]
    rfl⟩
   rw [hrse.out] at htk
   obtain ⟨xa, r⟩ := x
   simp only at d0 htk
   have hO := Hd.mk (hR.out.row.keep (kp_alloc wr (.cells #[.int .i32 (r : Int)] 21)))
   have hw1 : Hd (w1.heap.size ≤ (wr.alloc (.cells #[.int .i32 (r : Int)] 21)).heap.size) := ⟨by rw [size_alloc]; exact Nat.le_succ_of_le hR.out.below.size⟩
   have hmI : Hd (rs.length ≤ 1000000000) := ⟨by have := hln.out; omega⟩
   clear hx hc1
   go_wp2_with (first | ((with_reducible refine wl_or2 rfl (.tmp 14) (.tmp 20) 167 rfl 21 1 4 Tryz.underlying167 info21b rfl (by decide) (by decide) _ _ _ rfl hO.out hw1.out wr.heap.size 1 [.int .i32 (r : Int)] rfl rfl (one_new _ _ _) (by simp [Value.oneCell']) hmI.out ?_); intro v' w2 ho hb2 hkp hnn; have ho := Hd.mk ho; have hb2 := Hd.mk hb2; clear hkp hnn))
   exact ⟨⟨i + 1, by go_num, by omega, ⟨⟨by rw [htk.out, icl_app, List.length_append]; exact ho.out, (hR.out.below.alloc hR.out.below.size _).trans hb2.out⟩⟩⟩, by simp [intOf]; omega⟩
  ·have hltI : ¬ (i : Int) < (n : Int) := by omega
   obtain rfl : i = n := by omega
   go_wp2_with fail
   go_ret
   have e : (out.take i).map (·.2) = out.map (·.2) := by rw [List.take_of_length_le (by rw [hn.out]; exact Nat.le_refl _)]
   have hRr := hR.out.row
   have e2 : rs = out.map (·.2) := by rw [← hrse.out]; exact e
   refine ⟨_, rs, rfl, ⟨hRr.own, fun k hk => Nat.le_trans K1.out.size (hRr.new k hk)⟩, by rw [e2]; exact hrs.out, by rw [hln.out, hbl.out]; exact hol, K1.out.th (Kp.of_below hR.out.below (fun _ => False))⟩
end Go.Proofs.YtkcechpaeilaeaaGreatDoor
namespace Go.Proofs.YtkcechpaeilaeaaGreatDoor
open Go.RowKit
set_option maxRecDepth 100000
theorem Rs.bd {rs : List Nat} {l : List UInt8} (h : Rs rs l) : ∀ r ∈ rs, r < 2097152 := by
 induction h with
 | nil => intro r hr; cases hr
 | step hs _ ih =>
  intro r hr
  rcases List.mem_cons.1 hr with rfl | hr
  ·exact hs.2.2.1
  ·exact ih r hr
def CoR (c : Int) (p : Prop) (w w' : World) (e : Ending) : Prop := ((e = .returned (.int .i64 0) ∧ p) ∨ (e = .returned (.int .i64 c) ∧ ¬ p)) ∧ KZ w w'
set_option maxHeartbeats 8000000 in
theorem rmayc_at {w : World} {AF AS : Option Addr} {cF cS : Nat} (fl : List Fo) (ss : List (List UInt8)) (cap : Int) (hwf : ∀ x ∈ fl, (-2147483648 ≤ x.f ∧ x.f ≤ 2147483647) ∧ (-2147483648 ≤ x.t ∧ x.t ≤ 2147483647)) (hss : ∀ l ∈ ss, l.length ≤ 2000000)
  (hF : Fr w (.slice AF fl.length cF) fl) (hS : Wos w (.slice AS ss.length cS) ss) :
  Calls Tryz.prog 116 #[.agg #[.slice AF fl.length cF, .slice AS ss.length cS, .int .i64 cap]] w fun e w' => CoR 140 (mayC fl ss cap) w w' e := by
 obtain ⟨nf, hnf⟩ : ∃ n, fl.length = n := ⟨_, rfl⟩
 obtain ⟨ns, hns⟩ : ∃ n, ss.length = n := ⟨_, rfl⟩
 obtain ⟨w1, hw1⟩ : ∃ w1, w.alloc (.cells #[.slice AF nf cF, .slice AS ns cS, .int .i64 cap] 50) = w1 := ⟨_, rfl⟩
 have k01 : Hd (KZ w w1) := ⟨by rw [← hw1]; exact (Kp.refl _ w).alloc _⟩
 have hfc := Hd.mk (rcheck_at (w := w1) fl hwf (hF.keep k01.out))
 have hbx : Hd (∀ w', KZ w1 w' → (w'.cell? ⟨w.heap.size, 0, none⟩ = some (.slice AF nf cF) ∧ w'.cell? ⟨w.heap.size, 1, none⟩ = some (.slice AS ns cS) ∧ w'.cell? ⟨w.heap.size, 2, none⟩ = some (.int .i64 cap))) := ⟨fun w' hk => by
  rw [← hw1] at hk
  exact box3 _ _ _ _ _ _ hk⟩
 have HF := Hd.mk (hF.keep k01.out)
 have HS := Hd.mk (hS.keep k01.out)
 have Hss := Hd.mk hss
 rw [hnf] at HF hfc ⊢
 rw [hns] at HS ⊢
 have hnf' := Hd.mk hnf
 have hns' := Hd.mk hns
 clear hnf hns
 have hnf := hnf'
 have hns := hns'
 clear hnf' hns'
 clear hwf hF hS hss
 obtain ⟨e0, e1, e2⟩ := row3_new w (.slice AF nf cF) (.slice AS ns cS) (.int .i64 cap) 50
 have hwq := Hd.mk hw1
 clear hw1
 go_enter Tryz.func116, Tryz.ntmps116
 go_wp2_with fail
 rw [hwq.out] at e0 e1 e2 ⊢
 refine hfc.out.mono ?_
 rintro e w2 ⟨⟨rfl, hck⟩ | ⟨rfl, hck⟩, k2⟩
 ·have K2 := Hd.mk k2
  have hck := Hd.mk hck
  obtain ⟨d0, d1, d2⟩ := hbx.out w2 k2
  clear e0 e1 e2 k2 hfc
  by_cases hc1 : cap < 1
  ·go_wp2_with fail
   go_ret
   exact ⟨.inr ⟨rfl, fun h => by have := h.2.1.1; omega⟩, k01.out.th K2.out⟩
  ·by_cases hc2 : 12 < cap
   ·go_wp2_with fail
    go_ret
    exact ⟨.inr ⟨rfl, fun h => by have := h.2.1.2; omega⟩, k01.out.th K2.out⟩
   ·by_cases hc3 : 32 < ns
    ·have hc3I : (32 : Int) < (ns : Int) := by omega
     go_wp2_with fail
     go_ret
     exact ⟨.inr ⟨rfl, fun h => by have := h.2.2.1; have := hns.out; omega⟩, k01.out.th K2.out⟩
    ·have hc3I : ¬ (32 : Int) < (ns : Int) := by omega
     go_wp2_with fail
     clear d0 d1 d2
     go_loopw [3] (fun v3 wr => ∃ k : Nat, v3 = .int .i64 k ∧ k ≤ ns ∧ Hd (KZ w1 wr ∧ ∀ j, j < k → GoodW fl cap ss j)) (fun v3 _ => ns - (intOf v3).toNat)
     case atStart => exact ⟨0, rfl, Nat.zero_le _, ⟨K2.out, fun j hj => absurd hj (Nat.not_lt_zero _)⟩⟩
     case round =>
      obtain ⟨k, rfl, hk, HK⟩ := hrel
      have KR := Hd.mk HK.out.1
      obtain ⟨b0, b1, b2⟩ := hbx.out wr KR.out
      by_cases h1 : k < ns
      ·have hltI : (k : Int) < (ns : Int) := by omega
       obtain ⟨l, hlk⟩ : ∃ l, ss[k]? = some l := ⟨_, List.getElem?_eq_getElem (by rw [hns.out]; exact h1)⟩
       obtain ⟨g, o, rfl, c1⟩ := (HS.out.keep KR.out).cell hlk
       have hNG : Hd (¬ GoodW fl cap ss k → ¬ mayC fl ss cap) := ⟨fun hn h => hn (h.2.2.2 k (by rw [hns.out]; exact h1))⟩
       have hll := Hd.mk (Hss.out l (List.mem_of_getElem? hlk))
       have hlk := Hd.mk hlk
       go_wp2_with (first | ((with_reducible refine wl_tobytes rfl 9 22 5 (.tmp 37) rfl U9 U22 U5 l rfl ?_); intro vB w3 hB k3 _ _; have hB := Hd.mk hB; have k3 := Hd.mk k3; obtain ⟨AB, cB, rfl, _⟩ := hB.out; rw [ints_length] at hB ⊢))
       refine (runes_at l hll.out hB.out).mono ?_
       rintro e w4 ⟨v, rs, rfl, hO, hrs, hrl, k4⟩
       obtain ⟨A4, c4, rfl, _⟩ := hO.slice
       have K4 := Hd.mk (KR.out.th (k3.out.th k4))
       have hcells : Hd (∀ (j : Nat) (r : Nat), rs[j]? = some r → ∃ g, A4 = some ⟨g, 0, none⟩ ∧ w4.cell? ⟨g, j, none⟩ = some (.int .i32 (r : Int))) := ⟨fun j r hj => by
        obtain ⟨g, hA, hr, _, hg⟩ := hO.at (by have := (List.getElem?_eq_some_iff.1 hj).1; omega)
        have := hr j (.int .i32 (r : Int)) (by simp [icl, hj])
        rw [Nat.zero_add] at this
        exact ⟨g, hA, this⟩⟩
       have hiff := Hd.mk (okW_iff (fl := fl) (cap := cap) hrs)
       have hrb := Hd.mk hrs.bd
       have hrl2 : rs.length ≤ 2000000 := Nat.le_trans hrl hll.out
       obtain ⟨m, hm⟩ : ∃ m, rs.length = m := ⟨_, rfl⟩
       rw [hm] at hrl2 ⊢
       have hmq := Hd.mk hm
       clear hm hB hO hrs hrl k3 k4 c1 b0 b1 b2
       obtain ⟨b0, b1, b2⟩ := hbx.out w4 K4.out
       obtain ⟨_, _, hA9, c1⟩ := (HS.out.keep K4.out).cell hlk.out
       cases hA9
       by_cases hm1 : m < 1
       ·have q1 : Hd (decide ((m : Int) < 1) = true) := ⟨decide_eq_true (by omega)⟩
        have hS : Hd ((fun W : World => W.cell? ⟨w.heap.size, 1, none⟩ = some (.slice (some ⟨g, o, none⟩) ns cS) ∧ W.cell? ⟨w.heap.size, 2, none⟩ = some (.int .i64 cap) ∧ W.cell? ⟨g, o + k, none⟩ = some (.string ⟨l.toArray⟩)) w4.drew) := ⟨⟨b1, b2, c1⟩⟩
        go_wp2_with fail
        refine rn_begin (fun W : World => W.cell? ⟨w.heap.size, 1, none⟩ = some (.slice (some ⟨g, o, none⟩) ns cS) ∧ W.cell? ⟨w.heap.size, 2, none⟩ = some (.int .i64 cap) ∧ W.cell? ⟨g, o + k, none⟩ = some (.string ⟨l.toArray⟩)) (List.range 28) (by kernel_rfl) ?_
        refine rnA 0 40 (.slice A4 m c4) (rnM rfl rfl) hS.out ?_
        refine rnA 1 41 (.int .i64 ((m : Nat) : Int)) (fun W hW => ex_len W 167 _ rfl Tryz.underlying167 _ m c4 rfl) hS.out ?_
        simp only [Act.put, uA, uB, uC]
        refine rnA 2 42 (.bool true) (fun W hW => ex_lss W 3 _ _ _ rfl .i64 ((m : Nat) : Int) 1 rfl rfl true (q1.out)) hS.out ?_
        refine rnA 3 43 (.bool true) (rnM rfl rfl) hS.out ?_
        simp only [Act.put, uA, uB, uC]
        refine rnP 4 44 hS.out ?_
        refine rnP 5 45 hS.out ?_
        simp only [Act.put, uA, uB, uC]
        refine rnP 6 46 hS.out ?_
        refine rnP 7 47 hS.out ?_
        simp only [Act.put, uA, uB, uC]
        refine rnP 8 48 hS.out ?_
        refine rnA 9 49 (.bool true) (fun W hW => ex_pick W _ _ _ rfl true _ rfl rfl) hS.out ?_
        simp only [Act.put, uA, uB, uC]
        refine rnA 10 50 (.bool true) (rnM rfl rfl) hS.out ?_
        refine rnP 11 51 hS.out ?_
        simp only [Act.put, uA, uB, uC]
        refine rnP 12 52 hS.out ?_
        refine rnP 13 53 hS.out ?_
        simp only [Act.put, uA, uB, uC]
        refine rnP 14 54 hS.out ?_
        refine rnP 15 55 hS.out ?_
        simp only [Act.put, uA, uB, uC]
        refine rnP 16 56 hS.out ?_
        refine rnP 17 57 hS.out ?_
        simp only [Act.put, uA, uB, uC]
        refine rnP 18 58 hS.out ?_
        refine rnP 19 59 hS.out ?_
        simp only [Act.put, uA, uB, uC]
        refine rnP 20 60 hS.out ?_
        refine rnP 21 61 hS.out ?_
        simp only [Act.put, uA, uB, uC]
        refine rnP 22 62 hS.out ?_
        refine rnP 23 63 hS.out ?_
        simp only [Act.put, uA, uB, uC]
        refine rnP 24 64 hS.out ?_
        refine rnP 25 65 hS.out ?_
        simp only [Act.put, uA, uB, uC]
        refine rnP 26 66 hS.out ?_
        refine rnA 27 67 (.bool true) (fun W hW => ex_pick W _ _ _ rfl true _ rfl rfl) hS.out ?_
        simp only [Act.put, uA, uB, uC]
        refine rn_done (by kernel_rfl) ?_ _
        clear hS
        go_wp2_with fail
        go_ret
        exact ⟨.inr ⟨rfl, hNG.out (fun hg => by have := (hiff.out.1 (hg l hlk.out).1).2.1; have := hmq.out; omega)⟩, k01.out.th (K4.out.drew)⟩
       ·have q1 : Hd (decide ((m : Int) < 1) = false) := ⟨decide_eq_false (by omega)⟩
        by_cases hmc : cap < (m : Int)
        ·have q2 : Hd (decide (cap < (m : Int)) = true) := ⟨decide_eq_true hmc⟩
         have hS : Hd ((fun W : World => W.cell? ⟨w.heap.size, 1, none⟩ = some (.slice (some ⟨g, o, none⟩) ns cS) ∧ W.cell? ⟨w.heap.size, 2, none⟩ = some (.int .i64 cap) ∧ W.cell? ⟨g, o + k, none⟩ = some (.string ⟨l.toArray⟩)) w4.drew) := ⟨⟨b1, b2, c1⟩⟩
         go_wp2_with fail
         refine rn_begin (fun W : World => W.cell? ⟨w.heap.size, 1, none⟩ = some (.slice (some ⟨g, o, none⟩) ns cS) ∧ W.cell? ⟨w.heap.size, 2, none⟩ = some (.int .i64 cap) ∧ W.cell? ⟨g, o + k, none⟩ = some (.string ⟨l.toArray⟩)) (List.range 28) (by kernel_rfl) ?_
         refine rnA 0 40 (.slice A4 m c4) (rnM rfl rfl) hS.out ?_
         refine rnA 1 41 (.int .i64 ((m : Nat) : Int)) (fun W hW => ex_len W 167 _ rfl Tryz.underlying167 _ m c4 rfl) hS.out ?_
         simp only [Act.put, uA, uB, uC]
         refine rnA 2 42 (.bool false) (fun W hW => ex_lss W 3 _ _ _ rfl .i64 ((m : Nat) : Int) 1 rfl rfl false (q1.out)) hS.out ?_
         refine rnA 3 43 (.bool false) (rnM rfl rfl) hS.out ?_
         simp only [Act.put, uA, uB, uC]
         refine rnA 4 44 (.slice A4 m c4) (rnM rfl rfl) hS.out ?_
         refine rnA 5 45 (.int .i64 ((m : Nat) : Int)) (fun W hW => ex_len W 167 _ rfl Tryz.underlying167 _ m c4 rfl) hS.out ?_
         simp only [Act.put, uA, uB, uC]
         refine rnA 6 46 (.pointer (some ⟨w.heap.size, 2, none⟩)) (erF 50 2 _ rfl w.heap.size 0 0 2 2 Tryz.underlying50 rfl) hS.out ?_
         refine rnA 7 47 (.int .i64 (cap)) (fun W hW => ex_load W 3 _ _ rfl ⟨w.heap.size, 2, none⟩ U3 rfl rfl (hW.2.1)) hS.out ?_
         simp only [Act.put, uA, uB, uC]
         refine rnA 8 48 (.bool true) (fun W hW => ex_gtr W 3 _ _ _ rfl .i64 ((m : Nat) : Int) cap rfl rfl true (q2.out)) hS.out ?_
         refine rnA 9 49 (.bool true) (fun W hW => ex_pick W _ _ _ rfl false _ rfl rfl) hS.out ?_
         simp only [Act.put, uA, uB, uC]
         refine rnA 10 50 (.bool true) (rnM rfl rfl) hS.out ?_
         refine rnP 11 51 hS.out ?_
         simp only [Act.put, uA, uB, uC]
         refine rnP 12 52 hS.out ?_
         refine rnP 13 53 hS.out ?_
         simp only [Act.put, uA, uB, uC]
         refine rnP 14 54 hS.out ?_
         refine rnP 15 55 hS.out ?_
         simp only [Act.put, uA, uB, uC]
         refine rnP 16 56 hS.out ?_
         refine rnP 17 57 hS.out ?_
         simp only [Act.put, uA, uB, uC]
         refine rnP 18 58 hS.out ?_
         refine rnP 19 59 hS.out ?_
         simp only [Act.put, uA, uB, uC]
         refine rnP 20 60 hS.out ?_
         refine rnP 21 61 hS.out ?_
         simp only [Act.put, uA, uB, uC]
         refine rnP 22 62 hS.out ?_
         refine rnP 23 63 hS.out ?_
         simp only [Act.put, uA, uB, uC]
         refine rnP 24 64 hS.out ?_
         refine rnP 25 65 hS.out ?_
         simp only [Act.put, uA, uB, uC]
         refine rnP 26 66 hS.out ?_
         refine rnA 27 67 (.bool true) (fun W hW => ex_pick W _ _ _ rfl true _ rfl rfl) hS.out ?_
         simp only [Act.put, uA, uB, uC]
         refine rn_done (by kernel_rfl) ?_ _
         clear hS
         go_wp2_with fail
         go_ret
         exact ⟨.inr ⟨rfl, hNG.out (fun hg => by have := (hiff.out.1 (hg l hlk.out).1).2.2; have := hmq.out; omega)⟩, k01.out.th (K4.out.drew)⟩
        ·have q2 : Hd (decide (cap < (m : Int)) = false) := ⟨decide_eq_false hmc⟩
         by_cases hkz : k = 0
         ·subst hkz
          have c1 : w4.cell? ⟨g, o, none⟩ = some (.string ⟨l.toArray⟩) := c1
          have hS : Hd ((fun W : World => W.cell? ⟨w.heap.size, 1, none⟩ = some (.slice (some ⟨g, o, none⟩) ns cS) ∧ W.cell? ⟨w.heap.size, 2, none⟩ = some (.int .i64 cap) ∧ W.cell? ⟨g, o, none⟩ = some (.string ⟨l.toArray⟩)) w4.drew) := ⟨⟨b1, b2, c1⟩⟩
          go_wp2_with fail
          refine rn_begin (fun W : World => W.cell? ⟨w.heap.size, 1, none⟩ = some (.slice (some ⟨g, o, none⟩) ns cS) ∧ W.cell? ⟨w.heap.size, 2, none⟩ = some (.int .i64 cap) ∧ W.cell? ⟨g, o, none⟩ = some (.string ⟨l.toArray⟩)) (List.range 28) (by kernel_rfl) ?_
          refine rnA 0 40 (.slice A4 m c4) (rnM rfl rfl) hS.out ?_
          refine rnA 1 41 (.int .i64 ((m : Nat) : Int)) (fun W hW => ex_len W 167 _ rfl Tryz.underlying167 _ m c4 rfl) hS.out ?_
          simp only [Act.put, uA, uB, uC]
          refine rnA 2 42 (.bool false) (fun W hW => ex_lss W 3 _ _ _ rfl .i64 ((m : Nat) : Int) 1 rfl rfl false (q1.out)) hS.out ?_
          refine rnA 3 43 (.bool false) (rnM rfl rfl) hS.out ?_
          simp only [Act.put, uA, uB, uC]
          refine rnA 4 44 (.slice A4 m c4) (rnM rfl rfl) hS.out ?_
          refine rnA 5 45 (.int .i64 ((m : Nat) : Int)) (fun W hW => ex_len W 167 _ rfl Tryz.underlying167 _ m c4 rfl) hS.out ?_
          simp only [Act.put, uA, uB, uC]
          refine rnA 6 46 (.pointer (some ⟨w.heap.size, 2, none⟩)) (erF 50 2 _ rfl w.heap.size 0 0 2 2 Tryz.underlying50 rfl) hS.out ?_
          refine rnA 7 47 (.int .i64 (cap)) (fun W hW => ex_load W 3 _ _ rfl ⟨w.heap.size, 2, none⟩ U3 rfl rfl (hW.2.1)) hS.out ?_
          simp only [Act.put, uA, uB, uC]
          refine rnA 8 48 (.bool false) (fun W hW => ex_gtr W 3 _ _ _ rfl .i64 ((m : Nat) : Int) cap rfl rfl false (q2.out)) hS.out ?_
          refine rnA 9 49 (.bool false) (fun W hW => ex_pick W _ _ _ rfl false _ rfl rfl) hS.out ?_
          simp only [Act.put, uA, uB, uC]
          refine rnA 10 50 (.bool false) (rnM rfl rfl) hS.out ?_
          refine rnA 11 51 (.int .i64 0) (rnM rfl rfl) hS.out ?_
          simp only [Act.put, uA, uB, uC]
          refine rnA 12 52 (.bool false) (fun W hW => ex_gtr W 3 _ _ _ rfl .i64 0 0 rfl rfl false (by simp)) hS.out ?_
          refine rnA 13 53 (.bool false) (rnM rfl rfl) hS.out ?_
          simp only [Act.put, uA, uB, uC]
          refine rnP 14 54 hS.out ?_
          refine rnP 15 55 hS.out ?_
          simp only [Act.put, uA, uB, uC]
          refine rnP 16 56 hS.out ?_
          refine rnP 17 57 hS.out ?_
          simp only [Act.put, uA, uB, uC]
          refine rnP 18 58 hS.out ?_
          refine rnP 19 59 hS.out ?_
          simp only [Act.put, uA, uB, uC]
          refine rnP 20 60 hS.out ?_
          refine rnP 21 61 hS.out ?_
          simp only [Act.put, uA, uB, uC]
          refine rnP 22 62 hS.out ?_
          refine rnP 23 63 hS.out ?_
          simp only [Act.put, uA, uB, uC]
          refine rnP 24 64 hS.out ?_
          refine rnP 25 65 hS.out ?_
          simp only [Act.put, uA, uB, uC]
          refine rnA 26 66 (.bool false) (fun W hW => ex_pick W _ _ _ rfl false _ rfl rfl) hS.out ?_
          refine rnA 27 67 (.bool false) (fun W hW => ex_pick W _ _ _ rfl false _ rfl rfl) hS.out ?_
          simp only [Act.put, uA, uB, uC]
          refine rn_done (by kernel_rfl) ?_ _
          clear hS
          go_wp2_with fail
          go_loopw [5] (fun v5 w5 => ∃ j : Nat, v5 = .int .i64 j ∧ j ≤ m ∧ Hd (KZ w4 w5 ∧ ∀ (i r : Nat), i < j → rs[i]? = some r → lett (r : Int) = true ∧ fone fl (r : Int) = (r : Int))) (fun v5 _ => m - (intOf v5).toNat)
          case atStart => exact ⟨0, rfl, Nat.zero_le _, ⟨(Kp.refl _ _).drew, fun i r hi => absurd hi (Nat.not_lt_zero _)⟩⟩
          case round =>
           obtain ⟨j, rfl, hj, HJ⟩ := hrel
           have K5 := Hd.mk (K4.out.th HJ.out.1)
           by_cases hjm : j < m
           ·have hjI : (j : Int) < (m : Int) := by omega
            obtain ⟨r, hr⟩ : ∃ r, rs[j]? = some r := ⟨_, List.getElem?_eq_getElem (by rw [hmq.out]; exact hjm)⟩
            obtain ⟨g4, rfl, c4'⟩ := hcells.out j r hr
            have rb : r < 2097152 := hrb.out r (List.mem_of_getElem? hr)
            have hr := Hd.mk hr
            obtain ⟨z0, _, _⟩ := hbx.out wr K5.out
            have r0 := HJ.out.1.see c4' id
            obtain ⟨b, hb⟩ : ∃ b, Hd (lett (r : Int) = b) := ⟨_, ⟨rfl⟩⟩
            have hS : Hd ((fun W : World => KZ wr W ∧ W.cell? ⟨w.heap.size, 0, none⟩ = some (.slice AF nf cF) ∧ W.cell? ⟨g4, j, none⟩ = some (.int .i32 (r : Int))) wr.drew) := ⟨⟨(Kp.refl _ _).drew, z0, r0⟩⟩
            clear z0 r0 c4'
            cases b
            ·go_wp2_with fail
             refine rn_begin (fun W : World => KZ wr W ∧ W.cell? ⟨w.heap.size, 0, none⟩ = some (.slice AF nf cF) ∧ W.cell? ⟨g4, j, none⟩ = some (.int .i32 (r : Int))) (List.range 20) (by kernel_rfl) ?_
             refine rnA 0 74 (.slice (some ⟨g4, 0, none⟩) m c4) (rnM rfl rfl) hS.out ?_
             refine rnA 1 75 (.int .i64 ((j : Nat) : Int)) (rnM rfl rfl) hS.out ?_
             simp only [Act.put, uA, uB, uC]
             refine rnA 2 76 (.pointer (some ⟨g4, j, none⟩)) (erI 167 21 _ _ rfl 1 j Tryz.underlying167 g4 0 _ _ j) hS.out ?_
             refine rnA 3 77 (.int .i32 ((r : Int))) (fun W hW => ex_load W 21 _ _ rfl ⟨g4, j, none⟩ U21 rfl rfl (hW.2.2)) hS.out ?_
             simp only [Act.put, uA, uB, uC]
             generalize wr.drew = u0 at *
             refine rn_one (i := 4) (dst := some 78) rfl (by kernel_rfl) rfl rfl (fun K hK => ?_)
             refine ow_call 137 _ _ rfl Tryz.func137 (by kernel_rfl) (by kernel_rfl) [.int .i32 (r : Int)] rfl (rletter_b (r : Int) _ hb.out _) ?_
             rintro e u1 ⟨rfl, rfl⟩
             refine ⟨_, rfl, hK _ _ (fun _ => hS.out) ?_⟩
             clear hK K
             simp only [Act.put, uA, uB, uC]
             refine rnA 5 79 (.bool true) (fun W hW => ex_not W _ _ rfl false rfl) hS.out ?_
             refine rnA 6 80 (.bool true) (rnM rfl rfl) hS.out ?_
             simp only [Act.put, uA, uB, uC]
             refine rnP 7 81 hS.out ?_
             refine rnP 8 82 hS.out ?_
             simp only [Act.put, uA, uB, uC]
             refine rnP 9 83 hS.out ?_
             refine rnP 10 84 hS.out ?_
             simp only [Act.put, uA, uB, uC]
             refine rnP 11 85 hS.out ?_
             refine rnP 12 86 hS.out ?_
             simp only [Act.put, uA, uB, uC]
             refine rnP 13 87 hS.out ?_
             refine rnP 14 88 hS.out ?_
             simp only [Act.put, uA, uB, uC]
             refine rnP 15 89 hS.out ?_
             refine rnP 16 90 hS.out ?_
             simp only [Act.put, uA, uB, uC]
             refine rnP 17 91 hS.out ?_
             refine rnP 18 92 hS.out ?_
             simp only [Act.put, uA, uB, uC]
             refine rnA 19 93 (.bool true) (fun W hW => ex_pick W _ _ _ rfl true _ rfl rfl) hS.out ?_
             simp only [Act.put, uA, uB, uC]
             have KU := Hd.mk (K5.out.th hS.out.1)
             refine rn_done (by kernel_rfl) ?_ _
             clear hS
             go_wp2_with fail
             go_ret
             exact ⟨.inr ⟨rfl, hNG.out (fun hg => by have := ((hiff.out.1 (hg l hlk.out).1).1 r (List.mem_of_getElem? hr.out)).1; rw [hb.out] at this; cases this)⟩, k01.out.th (KU.out)⟩
            ·go_wp2_with fail
             refine rn_begin (fun W : World => KZ wr W ∧ W.cell? ⟨w.heap.size, 0, none⟩ = some (.slice AF nf cF) ∧ W.cell? ⟨g4, j, none⟩ = some (.int .i32 (r : Int))) (List.range 20) (by kernel_rfl) ?_
             refine rnA 0 74 (.slice (some ⟨g4, 0, none⟩) m c4) (rnM rfl rfl) hS.out ?_
             refine rnA 1 75 (.int .i64 ((j : Nat) : Int)) (rnM rfl rfl) hS.out ?_
             simp only [Act.put, uA, uB, uC]
             refine rnA 2 76 (.pointer (some ⟨g4, j, none⟩)) (erI 167 21 _ _ rfl 1 j Tryz.underlying167 g4 0 _ _ j) hS.out ?_
             refine rnA 3 77 (.int .i32 ((r : Int))) (fun W hW => ex_load W 21 _ _ rfl ⟨g4, j, none⟩ U21 rfl rfl (hW.2.2)) hS.out ?_
             simp only [Act.put, uA, uB, uC]
             generalize wr.drew = u0 at *
             refine rn_one (i := 4) (dst := some 78) rfl (by kernel_rfl) rfl rfl (fun K hK => ?_)
             refine ow_call 137 _ _ rfl Tryz.func137 (by kernel_rfl) (by kernel_rfl) [.int .i32 (r : Int)] rfl (rletter_b (r : Int) _ hb.out _) ?_
             rintro e u1 ⟨rfl, rfl⟩
             refine ⟨_, rfl, hK _ _ (fun _ => hS.out) ?_⟩
             clear hK K
             simp only [Act.put, uA, uB, uC]
             refine rnA 5 79 (.bool false) (fun W hW => ex_not W _ _ rfl true rfl) hS.out ?_
             refine rnA 6 80 (.bool false) (rnM rfl rfl) hS.out ?_
             simp only [Act.put, uA, uB, uC]
             refine rnA 7 81 (.pointer (some ⟨w.heap.size, 0, none⟩)) (erF 50 0 _ rfl w.heap.size 0 0 0 0 Tryz.underlying50 rfl) hS.out ?_
             refine rnA 8 82 (.slice AF nf cF) (fun W hW => ex_load W 47 _ _ rfl ⟨w.heap.size, 0, none⟩ U47 rfl rfl (hW.2.1)) hS.out ?_
             simp only [Act.put, uA, uB, uC]
             refine rnA 9 83 (.slice (some ⟨g4, 0, none⟩) m c4) (rnM rfl rfl) hS.out ?_
             refine rnA 10 84 (.int .i64 ((j : Nat) : Int)) (rnM rfl rfl) hS.out ?_
             simp only [Act.put, uA, uB, uC]
             refine rnA 11 85 (.pointer (some ⟨g4, j, none⟩)) (erI 167 21 _ _ rfl 1 j Tryz.underlying167 g4 0 _ _ j) hS.out ?_
             refine rnA 12 86 (.int .i32 ((r : Int))) (fun W hW => ex_load W 21 _ _ rfl ⟨g4, j, none⟩ U21 rfl rfl (hW.2.2)) hS.out ?_
             simp only [Act.put, uA, uB, uC]
             refine rnA 14 88 (.slice (some ⟨g4, 0, none⟩) m c4) (rnM rfl rfl) hS.out ?_
             refine rnA 15 89 (.int .i64 ((j : Nat) : Int)) (rnM rfl rfl) hS.out ?_
             simp only [Act.put, uA, uB, uC]
             refine rnA 16 90 (.pointer (some ⟨g4, j, none⟩)) (erI 167 21 _ _ rfl 1 j Tryz.underlying167 g4 0 _ _ j) hS.out ?_
             refine rnA 17 91 (.int .i32 ((r : Int))) (fun W hW => ex_load W 21 _ _ rfl ⟨g4, j, none⟩ U21 rfl rfl (hW.2.2)) hS.out ?_
             simp only [Act.put, uA, uB, uC]
             have hru := Hd.mk (rrune_at (w := u1) (A := AF) (c := cF) fl (r : Int) (by omega) (by rw [hnf.out]; exact HF.out.keep (K5.out.th hS.out.1)) hck.out)
             rw [hnf.out] at hru
             obtain ⟨z, hz⟩ : ∃ z, Hd (fone fl (r : Int) = z) := ⟨_, ⟨rfl⟩⟩
             rw [hz.out] at hru
             refine rn_one (i := 13) (dst := some 87) rfl (by kernel_rfl) rfl rfl (fun K hK => ?_)
             refine ow_call 138 _ _ rfl Tryz.func138 (by kernel_rfl) (by kernel_rfl) [.slice AF nf cF, .int .i32 (r : Int)] rfl hru.out ?_
             rintro e u2 ⟨rfl, k5⟩
             have hS2 : Hd ((fun W : World => KZ wr W ∧ W.cell? ⟨w.heap.size, 0, none⟩ = some (.slice AF nf cF) ∧ W.cell? ⟨g4, j, none⟩ = some (.int .i32 (r : Int))) u2) := ⟨⟨hS.out.1.th k5, k5.see hS.out.2.1 id, k5.see hS.out.2.2 id⟩⟩
             refine ⟨_, rfl, hK _ _ (fun _ => hS2.out) ?_⟩
             clear hK K hS hru
             have hS := hS2
             clear hS2
             simp only [Act.put, uA, uB, uC]
             obtain ⟨q, hq⟩ : ∃ q, Hd (decide (z ≠ (r : Int)) = q) := ⟨_, ⟨rfl⟩⟩
             have KU := Hd.mk (K5.out.th hS.out.1)
             have KJ := Hd.mk (HJ.out.1.th hS.out.1)
             cases q
             ·skip
              refine rnA 18 92 (.bool false) (fun W hW => ex_neq W 21 21 _ _ rfl .i32 z (r : Int) rfl rfl false hq.out) hS.out ?_; simp only [Act.put, uA, uB, uC]
              refine rnA 19 93 (.bool false) (fun W hW => ex_pick W _ _ _ rfl false _ rfl rfl) hS.out ?_; simp only [Act.put, uA, uB, uC]
              refine rn_done (by kernel_rfl) ?_ _
              clear hS
              go_wp2_with fail
              refine And.intro (Exists.intro (j + 1) ⟨by go_num, by omega, ⟨KJ.out, fun i r' hi hr' => ?_⟩⟩) (by simp [intOf]; omega)
              by_cases e : i = j
              ·subst e
               rw [hr.out] at hr'
               cases hr'
               exact ⟨hb.out, by rw [hz.out]; have := of_decide_eq_false hq.out; omega⟩
              ·exact HJ.out.2 i r' (by omega) hr'
             ·skip
              refine rnA 18 92 (.bool true) (fun W hW => ex_neq W 21 21 _ _ rfl .i32 z (r : Int) rfl rfl true hq.out) hS.out ?_; simp only [Act.put, uA, uB, uC]
              refine rnA 19 93 (.bool true) (fun W hW => ex_pick W _ _ _ rfl false _ rfl rfl) hS.out ?_; simp only [Act.put, uA, uB, uC]
              refine rn_done (by kernel_rfl) ?_ _
              clear hS
              go_wp2_with fail
              go_ret
              exact ⟨.inr ⟨rfl, hNG.out (fun hg => by have := ((hiff.out.1 (hg l hlk.out).1).1 r (List.mem_of_getElem? hr.out)).2; rw [hz.out] at this; exact of_decide_eq_true hq.out this)⟩, k01.out.th (KU.out)⟩
           ·have hjI : ¬ (j : Int) < (m : Int) := by omega
            go_wp2_with fail
            refine And.intro (Exists.intro (0 + 1) ⟨by go_num, by omega, ⟨K5.out, fun i hi => ?_⟩⟩) (by simp [intOf]; omega)
            by_cases e : i = 0
            ·subst e
             intro l' hl'
             rw [hlk.out] at hl'
             cases hl'
             refine ⟨hiff.out.2 ⟨fun r hr => ?_, by rw [hmq.out]; omega, by rw [hmq.out]; omega⟩, fun j2 y2 e hy2 => by omega⟩
             obtain ⟨i, hi, rfl⟩ := List.getElem_of_mem hr
             exact HJ.out.2 i _ (by have := hmq.out; omega) (List.getElem?_eq_getElem hi)
            ·exact HK.out.2 i (by omega)
         ·obtain ⟨k', hkk⟩ : ∃ k', Hd (k = k' + 1) := ⟨k - 1, ⟨by omega⟩⟩
          obtain ⟨y, hy⟩ : ∃ y, ss[k']? = some y := ⟨_, List.getElem?_eq_getElem (by rw [hns.out]; have := hkk.out; omega)⟩
          obtain ⟨g2, o2, hA2, c2⟩ := (HS.out.keep K4.out).cell hy
          cases hA2
          have hy := Hd.mk hy
          have hkn' : k' < ns := by have := hkk.out; omega
          have hk0 : Hd (decide ((0 : Int) < (k : Int)) = true) := ⟨decide_eq_true (by omega)⟩
          have hk1 : Hd (IntKind.i64.wrap ((k : Int) - 1) = (k' : Int)) := ⟨by have := hkk.out; rw [w64 (by omega)]; omega⟩
          obtain ⟨q, hq⟩ : ∃ q, Hd (Op.bytesLess y l = !q) := ⟨!(Op.bytesLess y l), ⟨by simp⟩⟩
          cases q
          ·skip
           have hS : Hd ((fun W : World => W.cell? ⟨w.heap.size, 1, none⟩ = some (.slice (some ⟨g, o, none⟩) ns cS) ∧ W.cell? ⟨w.heap.size, 2, none⟩ = some (.int .i64 cap) ∧ W.cell? ⟨g, o + k, none⟩ = some (.string ⟨l.toArray⟩) ∧ W.cell? ⟨g, o + k', none⟩ = some (.string ⟨y.toArray⟩)) w4.drew) := ⟨⟨b1, b2, c1, c2⟩⟩
           go_wp2_with fail
           refine rn_begin (fun W : World => W.cell? ⟨w.heap.size, 1, none⟩ = some (.slice (some ⟨g, o, none⟩) ns cS) ∧ W.cell? ⟨w.heap.size, 2, none⟩ = some (.int .i64 cap) ∧ W.cell? ⟨g, o + k, none⟩ = some (.string ⟨l.toArray⟩) ∧ W.cell? ⟨g, o + k', none⟩ = some (.string ⟨y.toArray⟩)) (List.range 28) (by kernel_rfl) ?_
           refine rnA 0 40 (.slice A4 m c4) (rnM rfl rfl) hS.out ?_
           refine rnA 1 41 (.int .i64 ((m : Nat) : Int)) (fun W hW => ex_len W 167 _ rfl Tryz.underlying167 _ m c4 rfl) hS.out ?_
           simp only [Act.put, uA, uB, uC]
           refine rnA 2 42 (.bool false) (fun W hW => ex_lss W 3 _ _ _ rfl .i64 ((m : Nat) : Int) 1 rfl rfl false (q1.out)) hS.out ?_
           refine rnA 3 43 (.bool false) (rnM rfl rfl) hS.out ?_
           simp only [Act.put, uA, uB, uC]
           refine rnA 4 44 (.slice A4 m c4) (rnM rfl rfl) hS.out ?_
           refine rnA 5 45 (.int .i64 ((m : Nat) : Int)) (fun W hW => ex_len W 167 _ rfl Tryz.underlying167 _ m c4 rfl) hS.out ?_
           simp only [Act.put, uA, uB, uC]
           refine rnA 6 46 (.pointer (some ⟨w.heap.size, 2, none⟩)) (erF 50 2 _ rfl w.heap.size 0 0 2 2 Tryz.underlying50 rfl) hS.out ?_
           refine rnA 7 47 (.int .i64 (cap)) (fun W hW => ex_load W 3 _ _ rfl ⟨w.heap.size, 2, none⟩ U3 rfl rfl (hW.2.1)) hS.out ?_
           simp only [Act.put, uA, uB, uC]
           refine rnA 8 48 (.bool false) (fun W hW => ex_gtr W 3 _ _ _ rfl .i64 ((m : Nat) : Int) cap rfl rfl false (q2.out)) hS.out ?_
           refine rnA 9 49 (.bool false) (fun W hW => ex_pick W _ _ _ rfl false _ rfl rfl) hS.out ?_
           simp only [Act.put, uA, uB, uC]
           refine rnA 10 50 (.bool false) (rnM rfl rfl) hS.out ?_
           refine rnA 11 51 (.int .i64 ((k : Nat) : Int)) (rnM rfl rfl) hS.out ?_
           simp only [Act.put, uA, uB, uC]
           refine rnA 12 52 (.bool true) (fun W hW => ex_gtr W 3 _ _ _ rfl .i64 ((k : Nat) : Int) 0 rfl rfl true (hk0.out)) hS.out ?_
           refine rnA 13 53 (.bool true) (rnM rfl rfl) hS.out ?_
           simp only [Act.put, uA, uB, uC]
           refine rnA 14 54 (.pointer (some ⟨w.heap.size, 1, none⟩)) (erF 50 1 _ rfl w.heap.size 0 0 1 1 Tryz.underlying50 rfl) hS.out ?_
           refine rnA 15 55 (.slice (some ⟨g, o, none⟩) ns cS) (fun W hW => ex_load W 48 _ _ rfl ⟨w.heap.size, 1, none⟩ U48 rfl rfl (hW.1)) hS.out ?_
           simp only [Act.put, uA, uB, uC]
           refine rnA 16 56 (.int .i64 ((k : Nat) : Int)) (rnM rfl rfl) hS.out ?_
           refine rnA 17 57 (.int .i64 ((k' : Nat) : Int)) (fun W hW => ex_subk W 3 3 _ _ rfl .i64 _ _ rfl rfl (k' : Int) hk1.out) hS.out ?_
           simp only [Act.put, uA, uB, uC]
           refine rnA 18 58 (.pointer (some ⟨g, o + k', none⟩)) (erI 48 9 _ _ rfl 1 k' U48 g o _ _ (o + k')) hS.out ?_
           refine rnA 19 59 (.string ⟨(y).toArray⟩) (fun W hW => ex_load W 9 _ _ rfl ⟨g, o + k', none⟩ U9 rfl rfl (hW.2.2.2)) hS.out ?_
           simp only [Act.put, uA, uB, uC]
           refine rnA 20 60 (.pointer (some ⟨w.heap.size, 1, none⟩)) (erF 50 1 _ rfl w.heap.size 0 0 1 1 Tryz.underlying50 rfl) hS.out ?_
           refine rnA 21 61 (.slice (some ⟨g, o, none⟩) ns cS) (fun W hW => ex_load W 48 _ _ rfl ⟨w.heap.size, 1, none⟩ U48 rfl rfl (hW.1)) hS.out ?_
           simp only [Act.put, uA, uB, uC]
           refine rnA 22 62 (.int .i64 ((k : Nat) : Int)) (rnM rfl rfl) hS.out ?_
           refine rnA 23 63 (.pointer (some ⟨g, o + k, none⟩)) (erI 48 9 _ _ rfl 1 k U48 g o _ _ (o + k)) hS.out ?_
           simp only [Act.put, uA, uB, uC]
           refine rnA 24 64 (.string ⟨(l).toArray⟩) (fun W hW => ex_load W 9 _ _ rfl ⟨g, o + k, none⟩ U9 rfl rfl (hW.2.2.1)) hS.out ?_
           refine rnA 25 65 (.bool false) (fun W hW => ex_sgeq W 9 9 _ _ rfl y l rfl rfl false hq.out) hS.out ?_
           simp only [Act.put, uA, uB, uC]
           refine rnA 26 66 (.bool false) (fun W hW => ex_pick W _ _ _ rfl true _ rfl rfl) hS.out ?_
           refine rnA 27 67 (.bool false) (fun W hW => ex_pick W _ _ _ rfl false _ rfl rfl) hS.out ?_
           simp only [Act.put, uA, uB, uC]
           refine rn_done (by kernel_rfl) ?_ _
           clear hS
           go_wp2_with fail
           go_loopw [5] (fun v5 w5 => ∃ j : Nat, v5 = .int .i64 j ∧ j ≤ m ∧ Hd (KZ w4 w5 ∧ ∀ (i r : Nat), i < j → rs[i]? = some r → lett (r : Int) = true ∧ fone fl (r : Int) = (r : Int))) (fun v5 _ => m - (intOf v5).toNat)
           case atStart => exact ⟨0, rfl, Nat.zero_le _, ⟨(Kp.refl _ _).drew, fun i r hi => absurd hi (Nat.not_lt_zero _)⟩⟩
           case round =>
            obtain ⟨j, rfl, hj, HJ⟩ := hrel
            have K5 := Hd.mk (K4.out.th HJ.out.1)
            by_cases hjm : j < m
            ·have hjI : (j : Int) < (m : Int) := by omega
             obtain ⟨r, hr⟩ : ∃ r, rs[j]? = some r := ⟨_, List.getElem?_eq_getElem (by rw [hmq.out]; exact hjm)⟩
             obtain ⟨g4, rfl, c4'⟩ := hcells.out j r hr
             have rb : r < 2097152 := hrb.out r (List.mem_of_getElem? hr)
             have hr := Hd.mk hr
             obtain ⟨z0, _, _⟩ := hbx.out wr K5.out
             have r0 := HJ.out.1.see c4' id
             obtain ⟨b, hb⟩ : ∃ b, Hd (lett (r : Int) = b) := ⟨_, ⟨rfl⟩⟩
             have hS : Hd ((fun W : World => KZ wr W ∧ W.cell? ⟨w.heap.size, 0, none⟩ = some (.slice AF nf cF) ∧ W.cell? ⟨g4, j, none⟩ = some (.int .i32 (r : Int))) wr.drew) := ⟨⟨(Kp.refl _ _).drew, z0, r0⟩⟩
             clear z0 r0 c4'
             cases b
             ·go_wp2_with fail
              refine rn_begin (fun W : World => KZ wr W ∧ W.cell? ⟨w.heap.size, 0, none⟩ = some (.slice AF nf cF) ∧ W.cell? ⟨g4, j, none⟩ = some (.int .i32 (r : Int))) (List.range 20) (by kernel_rfl) ?_
              refine rnA 0 74 (.slice (some ⟨g4, 0, none⟩) m c4) (rnM rfl rfl) hS.out ?_
              refine rnA 1 75 (.int .i64 ((j : Nat) : Int)) (rnM rfl rfl) hS.out ?_
              simp only [Act.put, uA, uB, uC]
              refine rnA 2 76 (.pointer (some ⟨g4, j, none⟩)) (erI 167 21 _ _ rfl 1 j Tryz.underlying167 g4 0 _ _ j) hS.out ?_
              refine rnA 3 77 (.int .i32 ((r : Int))) (fun W hW => ex_load W 21 _ _ rfl ⟨g4, j, none⟩ U21 rfl rfl (hW.2.2)) hS.out ?_
              simp only [Act.put, uA, uB, uC]
              generalize wr.drew = u0 at *
              refine rn_one (i := 4) (dst := some 78) rfl (by kernel_rfl) rfl rfl (fun K hK => ?_)
              refine ow_call 137 _ _ rfl Tryz.func137 (by kernel_rfl) (by kernel_rfl) [.int .i32 (r : Int)] rfl (rletter_b (r : Int) _ hb.out _) ?_
              rintro e u1 ⟨rfl, rfl⟩
              refine ⟨_, rfl, hK _ _ (fun _ => hS.out) ?_⟩
              clear hK K
              simp only [Act.put, uA, uB, uC]
              refine rnA 5 79 (.bool true) (fun W hW => ex_not W _ _ rfl false rfl) hS.out ?_
              refine rnA 6 80 (.bool true) (rnM rfl rfl) hS.out ?_
              simp only [Act.put, uA, uB, uC]
              refine rnP 7 81 hS.out ?_
              refine rnP 8 82 hS.out ?_
              simp only [Act.put, uA, uB, uC]
              refine rnP 9 83 hS.out ?_
              refine rnP 10 84 hS.out ?_
              simp only [Act.put, uA, uB, uC]
              refine rnP 11 85 hS.out ?_
              refine rnP 12 86 hS.out ?_
              simp only [Act.put, uA, uB, uC]
              refine rnP 13 87 hS.out ?_
              refine rnP 14 88 hS.out ?_
              simp only [Act.put, uA, uB, uC]
              refine rnP 15 89 hS.out ?_
              refine rnP 16 90 hS.out ?_
              simp only [Act.put, uA, uB, uC]
              refine rnP 17 91 hS.out ?_
              refine rnP 18 92 hS.out ?_
              simp only [Act.put, uA, uB, uC]
              refine rnA 19 93 (.bool true) (fun W hW => ex_pick W _ _ _ rfl true _ rfl rfl) hS.out ?_
              simp only [Act.put, uA, uB, uC]
              have KU := Hd.mk (K5.out.th hS.out.1)
              refine rn_done (by kernel_rfl) ?_ _
              clear hS
              go_wp2_with fail
              go_ret
              exact ⟨.inr ⟨rfl, hNG.out (fun hg => by have := ((hiff.out.1 (hg l hlk.out).1).1 r (List.mem_of_getElem? hr.out)).1; rw [hb.out] at this; cases this)⟩, k01.out.th (KU.out)⟩
             ·go_wp2_with fail
              refine rn_begin (fun W : World => KZ wr W ∧ W.cell? ⟨w.heap.size, 0, none⟩ = some (.slice AF nf cF) ∧ W.cell? ⟨g4, j, none⟩ = some (.int .i32 (r : Int))) (List.range 20) (by kernel_rfl) ?_
              refine rnA 0 74 (.slice (some ⟨g4, 0, none⟩) m c4) (rnM rfl rfl) hS.out ?_
              refine rnA 1 75 (.int .i64 ((j : Nat) : Int)) (rnM rfl rfl) hS.out ?_
              simp only [Act.put, uA, uB, uC]
              refine rnA 2 76 (.pointer (some ⟨g4, j, none⟩)) (erI 167 21 _ _ rfl 1 j Tryz.underlying167 g4 0 _ _ j) hS.out ?_
              refine rnA 3 77 (.int .i32 ((r : Int))) (fun W hW => ex_load W 21 _ _ rfl ⟨g4, j, none⟩ U21 rfl rfl (hW.2.2)) hS.out ?_
              simp only [Act.put, uA, uB, uC]
              generalize wr.drew = u0 at *
              refine rn_one (i := 4) (dst := some 78) rfl (by kernel_rfl) rfl rfl (fun K hK => ?_)
              refine ow_call 137 _ _ rfl Tryz.func137 (by kernel_rfl) (by kernel_rfl) [.int .i32 (r : Int)] rfl (rletter_b (r : Int) _ hb.out _) ?_
              rintro e u1 ⟨rfl, rfl⟩
              refine ⟨_, rfl, hK _ _ (fun _ => hS.out) ?_⟩
              clear hK K
              simp only [Act.put, uA, uB, uC]
              refine rnA 5 79 (.bool false) (fun W hW => ex_not W _ _ rfl true rfl) hS.out ?_
              refine rnA 6 80 (.bool false) (rnM rfl rfl) hS.out ?_
              simp only [Act.put, uA, uB, uC]
              refine rnA 7 81 (.pointer (some ⟨w.heap.size, 0, none⟩)) (erF 50 0 _ rfl w.heap.size 0 0 0 0 Tryz.underlying50 rfl) hS.out ?_
              refine rnA 8 82 (.slice AF nf cF) (fun W hW => ex_load W 47 _ _ rfl ⟨w.heap.size, 0, none⟩ U47 rfl rfl (hW.2.1)) hS.out ?_
              simp only [Act.put, uA, uB, uC]
              refine rnA 9 83 (.slice (some ⟨g4, 0, none⟩) m c4) (rnM rfl rfl) hS.out ?_
              refine rnA 10 84 (.int .i64 ((j : Nat) : Int)) (rnM rfl rfl) hS.out ?_
              simp only [Act.put, uA, uB, uC]
              refine rnA 11 85 (.pointer (some ⟨g4, j, none⟩)) (erI 167 21 _ _ rfl 1 j Tryz.underlying167 g4 0 _ _ j) hS.out ?_
              refine rnA 12 86 (.int .i32 ((r : Int))) (fun W hW => ex_load W 21 _ _ rfl ⟨g4, j, none⟩ U21 rfl rfl (hW.2.2)) hS.out ?_
              simp only [Act.put, uA, uB, uC]
              refine rnA 14 88 (.slice (some ⟨g4, 0, none⟩) m c4) (rnM rfl rfl) hS.out ?_
              refine rnA 15 89 (.int .i64 ((j : Nat) : Int)) (rnM rfl rfl) hS.out ?_
              simp only [Act.put, uA, uB, uC]
              refine rnA 16 90 (.pointer (some ⟨g4, j, none⟩)) (erI 167 21 _ _ rfl 1 j Tryz.underlying167 g4 0 _ _ j) hS.out ?_
              refine rnA 17 91 (.int .i32 ((r : Int))) (fun W hW => ex_load W 21 _ _ rfl ⟨g4, j, none⟩ U21 rfl rfl (hW.2.2)) hS.out ?_
              simp only [Act.put, uA, uB, uC]
              have hru := Hd.mk (rrune_at (w := u1) (A := AF) (c := cF) fl (r : Int) (by omega) (by rw [hnf.out]; exact HF.out.keep (K5.out.th hS.out.1)) hck.out)
              rw [hnf.out] at hru
              obtain ⟨z, hz⟩ : ∃ z, Hd (fone fl (r : Int) = z) := ⟨_, ⟨rfl⟩⟩
              rw [hz.out] at hru
              refine rn_one (i := 13) (dst := some 87) rfl (by kernel_rfl) rfl rfl (fun K hK => ?_)
              refine ow_call 138 _ _ rfl Tryz.func138 (by kernel_rfl) (by kernel_rfl) [.slice AF nf cF, .int .i32 (r : Int)] rfl hru.out ?_
              rintro e u2 ⟨rfl, k5⟩
              have hS2 : Hd ((fun W : World => KZ wr W ∧ W.cell? ⟨w.heap.size, 0, none⟩ = some (.slice AF nf cF) ∧ W.cell? ⟨g4, j, none⟩ = some (.int .i32 (r : Int))) u2) := ⟨⟨hS.out.1.th k5, k5.see hS.out.2.1 id, k5.see hS.out.2.2 id⟩⟩
              refine ⟨_, rfl, hK _ _ (fun _ => hS2.out) ?_⟩
              clear hK K hS hru
              have hS := hS2
              clear hS2
              simp only [Act.put, uA, uB, uC]
              obtain ⟨q, hq⟩ : ∃ q, Hd (decide (z ≠ (r : Int)) = q) := ⟨_, ⟨rfl⟩⟩
              have KU := Hd.mk (K5.out.th hS.out.1)
              have KJ := Hd.mk (HJ.out.1.th hS.out.1)
              cases q
              ·skip
               refine rnA 18 92 (.bool false) (fun W hW => ex_neq W 21 21 _ _ rfl .i32 z (r : Int) rfl rfl false hq.out) hS.out ?_; simp only [Act.put, uA, uB, uC]
               refine rnA 19 93 (.bool false) (fun W hW => ex_pick W _ _ _ rfl false _ rfl rfl) hS.out ?_; simp only [Act.put, uA, uB, uC]
               refine rn_done (by kernel_rfl) ?_ _
               clear hS
               go_wp2_with fail
               refine And.intro (Exists.intro (j + 1) ⟨by go_num, by omega, ⟨KJ.out, fun i r' hi hr' => ?_⟩⟩) (by simp [intOf]; omega)
               by_cases e : i = j
               ·subst e
                rw [hr.out] at hr'
                cases hr'
                exact ⟨hb.out, by rw [hz.out]; have := of_decide_eq_false hq.out; omega⟩
               ·exact HJ.out.2 i r' (by omega) hr'
              ·skip
               refine rnA 18 92 (.bool true) (fun W hW => ex_neq W 21 21 _ _ rfl .i32 z (r : Int) rfl rfl true hq.out) hS.out ?_; simp only [Act.put, uA, uB, uC]
               refine rnA 19 93 (.bool true) (fun W hW => ex_pick W _ _ _ rfl false _ rfl rfl) hS.out ?_; simp only [Act.put, uA, uB, uC]
               refine rn_done (by kernel_rfl) ?_ _
               clear hS
               go_wp2_with fail
               go_ret
               exact ⟨.inr ⟨rfl, hNG.out (fun hg => by have := ((hiff.out.1 (hg l hlk.out).1).1 r (List.mem_of_getElem? hr.out)).2; rw [hz.out] at this; exact of_decide_eq_true hq.out this)⟩, k01.out.th (KU.out)⟩
            ·have hjI : ¬ (j : Int) < (m : Int) := by omega
             go_wp2_with fail
             refine And.intro (Exists.intro (k + 1) ⟨by go_num, by omega, ⟨K5.out, fun i hi => ?_⟩⟩) (by simp [intOf]; omega)
             by_cases e : i = k
             ·subst e
              intro l' hl'
              rw [hlk.out] at hl'
              cases hl'
              refine ⟨hiff.out.2 ⟨fun r hr => ?_, by rw [hmq.out]; omega, by rw [hmq.out]; omega⟩, fun j2 y2 e hy2 => by
              obtain rfl : j2 = k' := by have := hkk.out; omega
              rw [hy.out] at hy2
              cases hy2
              exact hq.out⟩
              obtain ⟨i, hi, rfl⟩ := List.getElem_of_mem hr
              exact HJ.out.2 i _ (by have := hmq.out; omega) (List.getElem?_eq_getElem hi)
             ·exact HK.out.2 i (by omega)
          ·skip
           have hS : Hd ((fun W : World => W.cell? ⟨w.heap.size, 1, none⟩ = some (.slice (some ⟨g, o, none⟩) ns cS) ∧ W.cell? ⟨w.heap.size, 2, none⟩ = some (.int .i64 cap) ∧ W.cell? ⟨g, o + k, none⟩ = some (.string ⟨l.toArray⟩) ∧ W.cell? ⟨g, o + k', none⟩ = some (.string ⟨y.toArray⟩)) w4.drew) := ⟨⟨b1, b2, c1, c2⟩⟩
           go_wp2_with fail
           refine rn_begin (fun W : World => W.cell? ⟨w.heap.size, 1, none⟩ = some (.slice (some ⟨g, o, none⟩) ns cS) ∧ W.cell? ⟨w.heap.size, 2, none⟩ = some (.int .i64 cap) ∧ W.cell? ⟨g, o + k, none⟩ = some (.string ⟨l.toArray⟩) ∧ W.cell? ⟨g, o + k', none⟩ = some (.string ⟨y.toArray⟩)) (List.range 28) (by kernel_rfl) ?_
           refine rnA 0 40 (.slice A4 m c4) (rnM rfl rfl) hS.out ?_
           refine rnA 1 41 (.int .i64 ((m : Nat) : Int)) (fun W hW => ex_len W 167 _ rfl Tryz.underlying167 _ m c4 rfl) hS.out ?_
           simp only [Act.put, uA, uB, uC]
           refine rnA 2 42 (.bool false) (fun W hW => ex_lss W 3 _ _ _ rfl .i64 ((m : Nat) : Int) 1 rfl rfl false (q1.out)) hS.out ?_
           refine rnA 3 43 (.bool false) (rnM rfl rfl) hS.out ?_
           simp only [Act.put, uA, uB, uC]
           refine rnA 4 44 (.slice A4 m c4) (rnM rfl rfl) hS.out ?_
           refine rnA 5 45 (.int .i64 ((m : Nat) : Int)) (fun W hW => ex_len W 167 _ rfl Tryz.underlying167 _ m c4 rfl) hS.out ?_
           simp only [Act.put, uA, uB, uC]
           refine rnA 6 46 (.pointer (some ⟨w.heap.size, 2, none⟩)) (erF 50 2 _ rfl w.heap.size 0 0 2 2 Tryz.underlying50 rfl) hS.out ?_
           refine rnA 7 47 (.int .i64 (cap)) (fun W hW => ex_load W 3 _ _ rfl ⟨w.heap.size, 2, none⟩ U3 rfl rfl (hW.2.1)) hS.out ?_
           simp only [Act.put, uA, uB, uC]
           refine rnA 8 48 (.bool false) (fun W hW => ex_gtr W 3 _ _ _ rfl .i64 ((m : Nat) : Int) cap rfl rfl false (q2.out)) hS.out ?_
           refine rnA 9 49 (.bool false) (fun W hW => ex_pick W _ _ _ rfl false _ rfl rfl) hS.out ?_
           simp only [Act.put, uA, uB, uC]
           refine rnA 10 50 (.bool false) (rnM rfl rfl) hS.out ?_
           refine rnA 11 51 (.int .i64 ((k : Nat) : Int)) (rnM rfl rfl) hS.out ?_
           simp only [Act.put, uA, uB, uC]
           refine rnA 12 52 (.bool true) (fun W hW => ex_gtr W 3 _ _ _ rfl .i64 ((k : Nat) : Int) 0 rfl rfl true (hk0.out)) hS.out ?_
           refine rnA 13 53 (.bool true) (rnM rfl rfl) hS.out ?_
           simp only [Act.put, uA, uB, uC]
           refine rnA 14 54 (.pointer (some ⟨w.heap.size, 1, none⟩)) (erF 50 1 _ rfl w.heap.size 0 0 1 1 Tryz.underlying50 rfl) hS.out ?_
           refine rnA 15 55 (.slice (some ⟨g, o, none⟩) ns cS) (fun W hW => ex_load W 48 _ _ rfl ⟨w.heap.size, 1, none⟩ U48 rfl rfl (hW.1)) hS.out ?_
           simp only [Act.put, uA, uB, uC]
           refine rnA 16 56 (.int .i64 ((k : Nat) : Int)) (rnM rfl rfl) hS.out ?_
           refine rnA 17 57 (.int .i64 ((k' : Nat) : Int)) (fun W hW => ex_subk W 3 3 _ _ rfl .i64 _ _ rfl rfl (k' : Int) hk1.out) hS.out ?_
           simp only [Act.put, uA, uB, uC]
           refine rnA 18 58 (.pointer (some ⟨g, o + k', none⟩)) (erI 48 9 _ _ rfl 1 k' U48 g o _ _ (o + k')) hS.out ?_
           refine rnA 19 59 (.string ⟨(y).toArray⟩) (fun W hW => ex_load W 9 _ _ rfl ⟨g, o + k', none⟩ U9 rfl rfl (hW.2.2.2)) hS.out ?_
           simp only [Act.put, uA, uB, uC]
           refine rnA 20 60 (.pointer (some ⟨w.heap.size, 1, none⟩)) (erF 50 1 _ rfl w.heap.size 0 0 1 1 Tryz.underlying50 rfl) hS.out ?_
           refine rnA 21 61 (.slice (some ⟨g, o, none⟩) ns cS) (fun W hW => ex_load W 48 _ _ rfl ⟨w.heap.size, 1, none⟩ U48 rfl rfl (hW.1)) hS.out ?_
           simp only [Act.put, uA, uB, uC]
           refine rnA 22 62 (.int .i64 ((k : Nat) : Int)) (rnM rfl rfl) hS.out ?_
           refine rnA 23 63 (.pointer (some ⟨g, o + k, none⟩)) (erI 48 9 _ _ rfl 1 k U48 g o _ _ (o + k)) hS.out ?_
           simp only [Act.put, uA, uB, uC]
           refine rnA 24 64 (.string ⟨(l).toArray⟩) (fun W hW => ex_load W 9 _ _ rfl ⟨g, o + k, none⟩ U9 rfl rfl (hW.2.2.1)) hS.out ?_
           refine rnA 25 65 (.bool true) (fun W hW => ex_sgeq W 9 9 _ _ rfl y l rfl rfl true hq.out) hS.out ?_
           simp only [Act.put, uA, uB, uC]
           refine rnA 26 66 (.bool true) (fun W hW => ex_pick W _ _ _ rfl true _ rfl rfl) hS.out ?_
           refine rnA 27 67 (.bool true) (fun W hW => ex_pick W _ _ _ rfl false _ rfl rfl) hS.out ?_
           simp only [Act.put, uA, uB, uC]
           refine rn_done (by kernel_rfl) ?_ _
           clear hS
           go_wp2_with fail
           go_ret
           exact ⟨.inr ⟨rfl, hNG.out (fun hg => by have := (hg l hlk.out).2 k' y hkk.out hy.out; rw [hq.out] at this; cases this)⟩, k01.out.th (K4.out.drew)⟩
      ·have hltI : ¬ (k : Int) < (ns : Int) := by omega
       obtain rfl : k = ns := by omega
       go_wp2_with fail
       go_ret
       exact ⟨.inl ⟨rfl, hck.out, by omega, by have := hns.out; omega, fun i hi => HK.out.2 i (by rw [← hns.out]; exact hi)⟩, k01.out.th KR.out⟩
 ·obtain ⟨d0, d1, d2⟩ := hbx.out w2 k2
  have K2 := Hd.mk k2
  clear e0 e1 e2 k2 hfc
  go_wp2_with fail
  go_ret
  exact ⟨.inr ⟨rfl, fun h => absurd h.1 hck⟩, k01.out.th K2.out⟩
end Go.Proofs.YtkcechpaeilaeaaGreatDoor
namespace Go.Proofs.YtkcechpaeilaeaaGreatDoor
open Go.RowKit
set_option maxRecDepth 100000
theorem ob_lt {b : Nat} {w : World} {v : Value} {l : List Int} (h : Ob b w v l) : ∀ k, v.ownBlock = some k → k < w.heap.size := fun k hk => by
 rcases h.own.2 with ⟨e, _⟩ | ⟨g, cap, cur, e, _, hh, _⟩
 ·rw [e] at hk; cases hk
 ·rw [e] at hk
  injection hk with hk
  subst hk
  exact (Array.getElem?_eq_some_iff.1 hh).1
structure Ru (w1 : World) (Bf : Nat) (u : World) (v : Value) (l : List Int) (n : Nat) : Prop where
 ob : Ob w1.heap.size u v l
 len : l.length = n
 kp : KZ w1 u
 bf : Bf + 1 ≤ u.heap.size
 ne : ∀ k, v.ownBlock = some k → k ≠ Bf
 lo : w1.heap.size ≤ Bf
theorem Ru.ge {w1 u : World} {Bf n : Nat} {v : Value} {l : List Int} (h : Ru w1 Bf u v l n) : w1.heap.size ≤ u.heap.size := h.kp.size
theorem Ru.two {w1 u u' : World} {Bf n m : Nat} {v v' : Value} {l l' : List Int} (h : Ru w1 Bf u v l n) (hb : Ob w1.heap.size u' v' l') (hl : l'.length = l.length + m) (hk : Kp (fun k => v.ownBlock = some k) u u') (hn : ∀ k, v'.ownBlock = some k → v.ownBlock = some k ∨ u.heap.size ≤ k) : Ru w1 Bf u' v' l' (n + m) :=
 ⟨hb, by rw [hl, h.len], h.kp.andThen hk (fun i hi e => by have := h.ob.new i e; omega), Nat.le_trans h.bf hk.size, fun k hk' e => by
  subst e
  rcases hn k hk' with h1 | h1
  ·exact h.ne k h1 rfl
  ·have := h.bf; omega, h.lo⟩
theorem Ru.lit {w1 u : World} {Bf n : Nat} {v : Value} {l : List Int} (h : Ru w1 Bf u v l n) (z : Int) : Ru w1 Bf (u.alloc (.cells #[.int .u8 z] 5)) v l n :=
 ⟨h.ob.keep ((Kp.refl _ u).alloc _), h.len, h.kp.alloc _, by rw [size_alloc']; have := h.bf; omega, h.ne, h.lo⟩
theorem Ru.app {w1 u u' : World} {Bf n m : Nat} {v v' : Value} {l l' : List Int} (h : Ru w1 Bf u v l n) (hb : Ob w1.heap.size u' v' (l ++ l')) (hk : Kp (fun k => v.ownBlock = some k) u u') (hm : l'.length = m := by rfl) : Wb w1.heap.size w1 u' v' (n + m) :=
 ⟨⟨_, hb, by rw [List.length_append, h.len, hm]⟩, h.kp.andThen hk (fun i hi e => by have := h.ob.new i e; omega)⟩
structure Xr (v : Value) (u : World) (x : Value) (l : List Int) : Prop where
 row : Bs u x l
 lt : ∀ k, x.ownBlock = some k → k < u.heap.size
 ne : ∀ k, x.ownBlock = some k → v.ownBlock ≠ some k
theorem Ru.xr {w1 u : World} {Bf n : Nat} {v : Value} {l : List Int} (h : Ru w1 Bf u v l n) (z : Int) : Xr v (u.alloc (.cells #[.int .u8 z] 5)) (.slice (some ⟨u.heap.size, 0, none⟩) 1 1) [z] :=
 ⟨fresh_Bs u 5 [z], fun k hk => by injection hk with hk; subst hk; show u.heap.size < _; rw [size_alloc']; omega, fun k hk e => by
  injection hk with hk
  subst hk
  have : u.heap.size < u.heap.size := ob_lt h.ob _ e
  omega⟩
theorem Xr.two {v v' x : Value} {u u' : World} {l : List Int} (h : Xr v u x l) (hk : Kp (fun k => v.ownBlock = some k) u u') (hn : ∀ k, v'.ownBlock = some k → v.ownBlock = some k ∨ u.heap.size ≤ k) : Xr v' u' x l :=
 ⟨h.row.keep (fun b hb hx => hk.block b hb (h.ne b hx)), fun k hx => Nat.lt_of_lt_of_le (h.lt k hx) hk.size, fun k hx e => by
  rcases hn k e with h1 | h1
  ·exact h.ne k hx h1
  ·have := h.lt k hx; omega⟩
theorem see3k {u u' : World} {Bf : Nat} {a b c : Value} {S : Nat → Prop} (h : u.cell? ⟨Bf, 0, none⟩ = some a ∧ u.cell? ⟨Bf, 1, none⟩ = some b ∧ u.cell? ⟨Bf, 2, none⟩ = some c) (hk : Kp S u u') (hS : ¬ S Bf := by exact id) : u'.cell? ⟨Bf, 0, none⟩ = some a ∧ u'.cell? ⟨Bf, 1, none⟩ = some b ∧ u'.cell? ⟨Bf, 2, none⟩ = some c := ⟨hk.see h.1 hS, hk.see h.2.1 hS, hk.see h.2.2 hS⟩
theorem Ru.see3 {w1 u u' : World} {Bf n : Nat} {v : Value} {l : List Int} (h : Ru w1 Bf u v l n) {a b c : Value} (h3 : u.cell? ⟨Bf, 0, none⟩ = some a ∧ u.cell? ⟨Bf, 1, none⟩ = some b ∧ u.cell? ⟨Bf, 2, none⟩ = some c) (hk : Kp (fun k => v.ownBlock = some k) u u') : u'.cell? ⟨Bf, 0, none⟩ = some a ∧ u'.cell? ⟨Bf, 1, none⟩ = some b ∧ u'.cell? ⟨Bf, 2, none⟩ = some c :=
 see3k h3 hk (fun e => h.ne Bf e rfl)
theorem ow_lit1' {o : Oper} {a : Act} {Q : Exit → Act → World → Prop} {K : Act → World → Prop} {w : World} (x : Operand) (ho : o.op = .buildSlice 22 1 #[(0, x)]) (n : Int) (hx : a.eval x = .int .u8 n)
  (h : K (a.put o.dst (.slice (some ⟨w.heap.size, 0, none⟩) 1 1)) (w.alloc (.cells #[.int .u8 n] 5))) : o.wp Tryz.prog a w K Q :=
 ow_run (ex_bs w 22 5 1 [x] [n] ho U22 rfl (by simp [u8s, hx]) info5i (zero5 w) (.inl rfl)) h
theorem Wb.wb {b : Nat} {w1 wr : World} {v : Value} {k : Nat} (h : Wb b w1 wr v (2 + 5 * k + 2 + 2 + 1)) : Wb b w1 wr v (2 + 5 * (k + 1)) := by
 rw [show 2 + 5 * (k + 1) = 2 + 5 * k + 2 + 2 + 1 by omega]; exact h
set_option maxHeartbeats 8000000 in
theorem rbytes_at {w : World} {AF AS : Option Addr} {cF cS : Nat} (fl : List Fo) (ss : List (List UInt8)) (cap : Int) (hwf : ∀ x ∈ fl, (-2147483648 ≤ x.f ∧ x.f ≤ 2147483647) ∧ (-2147483648 ≤ x.t ∧ x.t ≤ 2147483647)) (hss : ∀ l ∈ ss, l.length ≤ 2000000)
  (hF : Fr w (.slice AF fl.length cF) fl) (hS : Wos w (.slice AS ss.length cS) ss) :
  Calls Tryz.prog 92 #[.agg #[.slice AF fl.length cF, .slice AS ss.length cS, .int .i64 cap]] w fun e w' => BcR (bOk fl ss cap) w w' e := by
 obtain ⟨nf, hnf⟩ : ∃ n, fl.length = n := ⟨_, rfl⟩
 obtain ⟨ns, hns⟩ : ∃ n, ss.length = n := ⟨_, rfl⟩
 obtain ⟨w1, hw1⟩ : ∃ w1, w.alloc (.cells #[.slice AF nf cF, .slice AS ns cS, .int .i64 cap] 50) = w1 := ⟨_, rfl⟩
 have k01 : Hd (KZ w w1) := ⟨by rw [← hw1]; exact (Kp.refl _ w).alloc _⟩
 have hfc := Hd.mk (rmayc_at (w := w1) fl ss cap hwf hss (hF.keep k01.out) (hS.keep k01.out))
 have hbx : Hd (∀ w', KZ w1 w' → (w'.cell? ⟨w.heap.size, 0, none⟩ = some (.slice AF nf cF) ∧ w'.cell? ⟨w.heap.size, 1, none⟩ = some (.slice AS ns cS) ∧ w'.cell? ⟨w.heap.size, 2, none⟩ = some (.int .i64 cap)) ∧ w'.rangeAt w.heap.size 0 [.slice AF nf cF, .slice AS ns cS, .int .i64 cap]) := ⟨fun w' hk => by
  rw [← hw1] at hk
  exact ⟨box3 _ _ _ _ _ _ hk, box3r _ _ _ _ _ _ hk⟩⟩
 have HF := Hd.mk (hF.keep k01.out)
 have HS := Hd.mk (hS.keep k01.out)
 rw [hnf] at HF
 rw [hns] at HS
 rw [hnf, hns] at hfc ⊢
 have hnf' := Hd.mk hnf
 have hns' := Hd.mk hns
 clear hnf hns
 have hnf := hnf'
 have hns := hns'
 clear hnf' hns'
 clear hwf hF hS hss
 have br0 : Hd ((w.alloc (.cells #[.slice AF nf cF, .slice AS ns cS, .int .i64 cap] 50)).rangeAt w.heap.size 0 [.slice AF nf cF, .slice AS ns cS, .int .i64 cap]) := ⟨by rw [hw1]; exact (hbx.out w1 (Kp.refl _ _)).2⟩
 have hwq := Hd.mk hw1
 clear hw1
 go_enter Tryz.func92, Tryz.ntmps92
 go_wp2_with (first | (with_reducible refine wl_load_mid rfl 50 (.tmp 1) rfl w.heap.size 0 rfl [.slice AF nf cF, .slice AS ns cS, .int .i64 cap] br0.out Tryz.underlying50 rfl (by kernel_rfl) ?_))
 rw [hwq.out]
 refine hfc.out.mono ?_
 rintro e w2 ⟨⟨rfl, hb⟩ | ⟨rfl, hb⟩, k2⟩
 rotate_left
 ·have K2 := Hd.mk k2
  have hb := Hd.mk hb
  clear k2 hfc br0
  go_wp2_with fail
  go_ret2
  exact ⟨⟨_, 140, rfl, ⟨fun h => (by cases h), fun h => absurd h.1 hb.out⟩, .inr (.inr rfl)⟩, k01.out.th K2.out⟩
 ·have K2 := Hd.mk k2
  obtain ⟨⟨d0, d1, d2⟩, _⟩ := hbx.out w2 k2
  clear k2 hfc br0
  have hmay := Hd.mk hb
  clear hb
  obtain ⟨hm1, ⟨hm2, hm3⟩, hm4, hm5⟩ := hmay.out
  have hnf8 : nf ≤ 8 := by have := hm1.1; have := hnf.out; omega
  have hns32 : ns ≤ 32 := by have := hns.out; omega
  have hok := Hd.mk (fok_of hm1.2.1)
  have hsl : Hd (∀ (k : Nat) (l : List UInt8), ss[k]? = some l → 1 ≤ l.length ∧ l.length ≤ 24) := ⟨fun k l hl => okW_len (hm5 k (List.getElem?_eq_some_iff.1 hl).1 l hl).1 hm3⟩
  clear hm1 hm4 hm5
  obtain ⟨z1, hz1⟩ : ∃ z, Hd (IntKind.u8.wrap cap = z) := ⟨_, ⟨rfl⟩⟩
  obtain ⟨z2, hz2⟩ : ∃ z, Hd (IntKind.u8.wrap (nf : Int) = z) := ⟨_, ⟨rfl⟩⟩
  have hO0 : Hd (Wb w1.heap.size w1 (w2.alloc (.cells #[.int .u8 z1, .int .u8 z2] 5)) (.slice (some ⟨w2.heap.size, 0, none⟩) 2 2) 2) := ⟨⟨[z1, z2], Ob.of_blk (Blk.new w2 _ 5) rfl K2.out.size (by omega), rfl⟩, K2.out.alloc _⟩
  obtain ⟨w3, hw3⟩ : ∃ w3, w2.alloc (.cells #[.int .u8 z1, .int .u8 z2] 5) = w3 := ⟨_, rfl⟩
  rw [hw3] at hO0
  obtain ⟨⟨e0, e1, e2⟩, _⟩ := hbx.out w3 hO0.out.kp
  rw [← hw3] at e0 e1 e2
  have hw3' := Hd.mk hw3
  clear hw3
  go_wp2_with (first | (with_reducible refine wl_run rfl (ex_convz _ 3 5 (.tmp 15) rfl (by kernel_rfl) .u8 U5 .i64 cap z1 rfl hz1.out) ?_) | (with_reducible refine wl_run rfl (ex_convz _ 3 5 (.tmp 19) rfl (by kernel_rfl) .u8 U5 .i64 (nf : Int) z2 rfl hz2.out) ?_))
  rw [hw3'.out]
  clear e0 e1 e2 d0 d1 d2
  go_loopw [5, 6] (fun v4 v24 wr => ∃ k : Nat, v24 = .int .i64 k ∧ k ≤ nf ∧ Hd (Wb w1.heap.size w1 wr v4 (2 + 5 * k))) (fun _ v24 _ => nf - (intOf v24).toNat)
  case atStart => exact ⟨0, rfl, Nat.zero_le _, hO0⟩
  case round =>
   clear hO0
   obtain ⟨k, rfl, hk, HK⟩ := hrel
   obtain ⟨⟨b0, b1, b2⟩, _⟩ := hbx.out wr HK.out.kp
   by_cases h1 : k < nf
   ·have hltI : (k : Int) < (nf : Int) := by omega
    obtain ⟨x, hx⟩ : ∃ x, fl[k]? = some x := ⟨_, List.getElem?_eq_getElem (by rw [hnf.out]; exact h1)⟩
    obtain ⟨g, o, rfl, hr⟩ := (HF.out.keep HK.out.kp).row hx
    obtain ⟨⟨q1, q2⟩, ⟨q3, q4⟩, ⟨q5, q6⟩⟩ := hok.out x (List.mem_of_getElem? hx)
    obtain ⟨f0, t0, m⟩ := x
    simp only at hr q1 q2 q3 q4 q5 q6
    obtain ⟨f, rfl⟩ : ∃ f : Nat, f0 = (f : Int) := ⟨f0.toNat, by omega⟩
    obtain ⟨t, rfl⟩ : ∃ t : Nat, t0 = (t : Int) := ⟨t0.toNat, by omega⟩
    have hr := Hd.mk hr
    clear hx
    have hzf : Hd (IntKind.i64.wrap (f : Int) = (f : Int)) := ⟨w64 (by omega)⟩
    have hzt : Hd (IntKind.i64.wrap (t : Int) = (t : Int)) := ⟨w64 (by omega)⟩
    obtain ⟨zm, hzm⟩ : ∃ z, Hd (IntKind.u8.wrap (m - 1) = z) := ⟨_, ⟨rfl⟩⟩
    have hm1 : Hd (IntKind.i64.wrap (m - 1) = m - 1) := ⟨w64 (by omega)⟩
    obtain ⟨d0, d1, d2⟩ := row3_new wr (.int .i32 (f : Int)) (.int .i32 (t : Int)) (.int .i64 m) 100
    obtain ⟨l, hl, hll0⟩ := HK.out.ob
    obtain ⟨A4, c4, rfl, _⟩ := hl.bs
    obtain ⟨N, hNe⟩ : ∃ N, l.length = N := ⟨_, rfl⟩
    have hll : Hd (l.length = 2 + 5 * k) := ⟨hll0⟩
    rw [hNe] at hl HK ⊢
    clear hNe hll0
    have hlt : Hd (∀ k, (Value.slice A4 N c4).ownBlock = some k → k < wr.heap.size) := ⟨ob_lt hl⟩
    obtain ⟨w4, hw4⟩ : ∃ w4, wr.alloc (.cells #[.int .i32 (f : Int), .int .i32 (t : Int), .int .i64 m] 100) = w4 := ⟨_, rfl⟩
    obtain ⟨Bf, hBf⟩ : ∃ B, wr.heap.size = B := ⟨_, rfl⟩
    have k4 : Hd (KZ wr w4) := ⟨by rw [← hw4]; exact (Kp.refl _ wr).alloc _⟩
    have hO4 := Hd.mk (hl.keep k4.out)
    have h41 : Hd (w4.heap.size = Bf + 1) := ⟨by rw [← hw4, size_alloc', hBf]⟩
    have hB1 : Hd (w1.heap.size ≤ Bf) := ⟨by rw [← hBf]; exact HK.out.kp.size⟩
    rw [hBf] at hlt
    rw [hw4, hBf] at d0 d1 d2
    have hS : Hd ((fun W : World => W.cell? ⟨Bf, 0, none⟩ = some (.int .i32 (f : Int)) ∧ W.cell? ⟨Bf, 1, none⟩ = some (.int .i32 (t : Int)) ∧ W.cell? ⟨Bf, 2, none⟩ = some (.int .i64 m)) w4.drew) := ⟨⟨d0, d1, d2⟩⟩
    have hw4' := Hd.mk hw4
    have hBf' := Hd.mk hBf
    have hdw : Hd (w4.drew.heap.size = w4.heap.size) := ⟨rfl⟩
    have hO5 : Hd (Ob w1.heap.size w4.drew (.slice A4 N c4) l) := ⟨hO4.out.keep (Kp.refl _ _).drew⟩
    have K5 : Hd (KZ w1 w4.drew) := ⟨(HK.out.kp.th k4.out).drew⟩
    clear d0 d1 d2 hw4 hBf hl hO4 k4
    go_wp2_with (first | (with_reducible refine wl_load_mid rfl 100 (.tmp 32) rfl g (o + k * 3) rfl [.int .i32 (f : Int), .int .i32 (t : Int), .int .i64 m] hr.out Tryz.underlying100 rfl (by kernel_rfl) ?_) | (with_reducible refine wl_alloc rfl 100 rfl [.int .i32 0, .int .i32 0, .int .i64 0] (zero100 _) ?_) | ((with_reducible refine wl_store_new rfl 100 (.tmp 7) (.tmp 33) rfl [.int .i32 0, .int .i32 0, .int .i64 0] [.int .i32 (f : Int), .int .i32 (t : Int), .int .i64 m] rfl rfl (by kernel_rfl) rfl (by simp [Value.oneCell']) ?_)))
    rw [show wr.alloc (.cells ([.int .i32 (f : Int), .int .i32 (t : Int), .int .i64 m] : List Value).toArray 100) = w4 from hw4'.out, hBf'.out]
    refine rn_begin (fun W : World => W.cell? ⟨Bf, 0, none⟩ = some (.int .i32 (f : Int)) ∧ W.cell? ⟨Bf, 1, none⟩ = some (.int .i32 (t : Int)) ∧ W.cell? ⟨Bf, 2, none⟩ = some (.int .i64 m)) (List.range 16) (by kernel_rfl) ?_
    refine rnA 0 34 (.slice A4 N c4) (rnM rfl rfl) hS.out ?_
    refine rnA 1 35 (.pointer (some ⟨Bf, 0, none⟩)) (erF 100 0 _ rfl Bf 0 0 0 0 Tryz.underlying100 rfl) hS.out ?_
    simp only [Act.put, uA, uB, uC]
    refine rnA 2 36 (.int .i32 ((f : Int))) (fun W hW => ex_load W 21 _ _ rfl ⟨Bf, 0, none⟩ U21 rfl rfl (hW.1)) hS.out ?_
    refine rnA 3 37 (.int .i64 ((f : Nat) : Int)) (fun W hW => ex_convz W 21 3 _ rfl (by kernel_rfl) .i64 U3 .i32 (f : Int) (f : Int) rfl hzf.out) hS.out ?_
    simp only [Act.put, uA, uB, uC]
    refine rnA 5 39 (.pointer (some ⟨Bf, 1, none⟩)) (erF 100 1 _ rfl Bf 0 0 1 1 Tryz.underlying100 rfl) hS.out ?_
    refine rnA 6 40 (.int .i32 ((t : Int))) (fun W hW => ex_load W 21 _ _ rfl ⟨Bf, 1, none⟩ U21 rfl rfl (hW.2.1)) hS.out ?_
    simp only [Act.put, uA, uB, uC]
    refine rnA 7 41 (.int .i64 ((t : Nat) : Int)) (fun W hW => ex_convz W 21 3 _ rfl (by kernel_rfl) .i64 U3 .i32 (t : Int) (t : Int) rfl hzt.out) hS.out ?_
    refine rnA 9 43 (.pointer (some ⟨Bf, 2, none⟩)) (erF 100 2 _ rfl Bf 0 0 2 2 Tryz.underlying100 rfl) hS.out ?_
    simp only [Act.put, uA, uB, uC]
    refine rnA 10 44 (.int .i64 (m)) (fun W hW => ex_load W 3 _ _ rfl ⟨Bf, 2, none⟩ U3 rfl rfl (hW.2.2)) hS.out ?_
    refine rnA 11 45 (.int .i64 (m - 1)) (fun W hW => ex_subk W 3 3 _ _ rfl .i64 m 1 rfl rfl (m - 1) hm1.out) hS.out ?_
    simp only [Act.put, uA, uB, uC]
    refine rnA 12 46 (.int .u8 zm) (fun W hW => ex_convz W 3 5 _ rfl (by kernel_rfl) .u8 U5 .i64 (m - 1) zm rfl hzm.out) hS.out ?_
    simp only [Act.put, uA, uB, uC]
    generalize w4.drew = u0 at *
    have U0 : Hd (Ru w1 Bf u0 (.slice A4 N c4) l (2 + 5 * k)) := ⟨⟨hO5.out, hll.out, K5.out, by rw [hdw.out, h41.out]; exact Nat.le_refl _, fun q hq => by have := hlt.out q hq; omega, hB1.out⟩⟩
    clear hO5 K5 hdw hlt hr
    refine rn_two (i := 4) (j := 13) (di := some 38) (dj := some 47) rfl rfl (by kernel_rfl) rfl rfl rfl rfl (fun K hK => ?_) (fun K hK => ?_)
    ·skip
     refine ow_call 117 _ _ rfl Tryz.func117 (by kernel_rfl) (by kernel_rfl) [.slice A4 N c4, .int .i64 (f : Int)] rfl (two_at l U0.out.ob U0.out.ge f (by omega) (by have := U0.out.len; omega)) ?_
     rintro e u1 ⟨v5, l5, rfl, hb, hl, hk2, hn2⟩
     have U1 := Hd.mk (U0.out.two hb hl hk2 hn2)
     have hS := Hd.mk (U0.out.see3 hS.out hk2)
     refine ⟨_, rfl, hK _ _ (fun _ => hS.out) ?_⟩
     clear hK K hb hl hk2 hn2
     simp only [Act.put, uA, uB, uC]
     refine rn_two (i := 8) (j := 13) (di := some 42) (dj := some 47) rfl rfl (by kernel_rfl) rfl rfl rfl rfl (fun K hK => ?_) (fun K hK => ?_)
     ·skip
      refine ow_call 117 _ _ rfl Tryz.func117 (by kernel_rfl) (by kernel_rfl) [v5, .int .i64 (t : Int)] rfl (two_at l5 U1.out.ob U1.out.ge t (by omega) (by have := U1.out.len; omega)) ?_
      rintro e u2 ⟨v6, l6, rfl, hb, hl, hk2, hn2⟩
      have U2 := Hd.mk (U1.out.two hb hl hk2 hn2)
      have hS := Hd.mk (U1.out.see3 hS.out hk2)
      refine ⟨_, rfl, hK _ _ (fun _ => hS.out) ?_⟩
      clear hK K hb hl hk2 hn2
      simp only [Act.put, uA, uB, uC]
      refine rn_one (i := 13) (dst := some 47) rfl (by kernel_rfl) rfl rfl (fun K hK => ?_)
      refine ow_lit1' _ rfl zm rfl ?_
      obtain ⟨u3, hu3⟩ : ∃ u, u2.alloc (.cells #[.int .u8 zm] 5) = u := ⟨_, rfl⟩
      rw [hu3]
      have X3 : Hd (Xr v6 u3 (.slice (some ⟨u2.heap.size, 0, none⟩) 1 1) [zm]) := ⟨by rw [← hu3]; exact U2.out.xr zm⟩
      have U3 := Hd.mk (U2.out.lit zm)
      have hS := Hd.mk (see3k hS.out (((Kp.refl (fun _ => False) u2).alloc (.cells #[.int .u8 zm] 5))))
      rw [hu3] at U3 hS
      refine hK _ _ (fun _ => hS.out) ?_
      clear hK K hu3
      simp only [Act.put, uA, uB, uC]
      refine rn_one (i := 14) (dst := some 48) rfl (by kernel_rfl) rfl rfl (fun K hK => ?_)
      refine ow_ob2 _ _ rfl v6 l6 rfl U3.out.ob U3.out.ge (.slice (some ⟨u2.heap.size, 0, none⟩) 1 1) [zm] rfl X3.out.row (by have := U3.out.len; simp only [List.length_cons, List.length_nil]; omega) ?_
      intro v7 w7 h7 k7 n7
      have U9 := Hd.mk (U3.out.app h7 k7)
      have hS := Hd.mk (U3.out.see3 hS.out k7)
      refine hK _ _ (fun _ => hS.out) ?_
      clear hK K h7 k7 n7
      simp only [Act.put, uA, uB, uC]
      refine rnA 15 5 (v7) (fun W hW => ex_assign W _ _ rfl rfl) hS.out ?_
      simp only [Act.put, uA, uB, uC]
      refine rn_done (by kernel_rfl) ?_ _
      clear hS
      go_wp2_with fail
      exact ⟨⟨k + 1, by go_num, by omega, ⟨U9.out.wb⟩⟩, by simp [intOf]; omega⟩
     ·skip
      refine ow_lit1' _ rfl zm rfl ?_
      obtain ⟨u2, hu2⟩ : ∃ u, u1.alloc (.cells #[.int .u8 zm] 5) = u := ⟨_, rfl⟩
      rw [hu2]
      have X3 : Hd (Xr v5 u2 (.slice (some ⟨u1.heap.size, 0, none⟩) 1 1) [zm]) := ⟨by rw [← hu2]; exact U1.out.xr zm⟩
      have U2 := Hd.mk (U1.out.lit zm)
      have hS := Hd.mk (see3k hS.out (((Kp.refl (fun _ => False) u1).alloc (.cells #[.int .u8 zm] 5))))
      rw [hu2] at U2 hS
      refine hK _ _ (fun _ => hS.out) ?_
      clear hK K hu2
      simp only [Act.put, uA, uB, uC]
      refine rn_one (i := 8) (dst := some 42) rfl (by kernel_rfl) rfl rfl (fun K hK => ?_)
      refine ow_call 117 _ _ rfl Tryz.func117 (by kernel_rfl) (by kernel_rfl) [v5, .int .i64 (t : Int)] rfl (two_at l5 U2.out.ob U2.out.ge t (by omega) (by have := U2.out.len; omega)) ?_
      rintro e u3 ⟨v6, l6, rfl, hb, hl, hk2, hn2⟩
      have U3 := Hd.mk (U2.out.two hb hl hk2 hn2)
      have hS := Hd.mk (U2.out.see3 hS.out hk2)
      have X3 := Hd.mk (X3.out.two hk2 hn2)
      refine ⟨_, rfl, hK _ _ (fun _ => hS.out) ?_⟩
      clear hK K hb hl hk2 hn2
      simp only [Act.put, uA, uB, uC]
      refine rn_one (i := 14) (dst := some 48) rfl (by kernel_rfl) rfl rfl (fun K hK => ?_)
      refine ow_ob2 _ _ rfl v6 l6 rfl U3.out.ob U3.out.ge (.slice (some ⟨u1.heap.size, 0, none⟩) 1 1) [zm] rfl X3.out.row (by have := U3.out.len; simp only [List.length_cons, List.length_nil]; omega) ?_
      intro v7 w7 h7 k7 n7
      have U9 := Hd.mk (U3.out.app h7 k7)
      have hS := Hd.mk (U3.out.see3 hS.out k7)
      refine hK _ _ (fun _ => hS.out) ?_
      clear hK K h7 k7 n7
      simp only [Act.put, uA, uB, uC]
      refine rnA 15 5 (v7) (fun W hW => ex_assign W _ _ rfl rfl) hS.out ?_
      simp only [Act.put, uA, uB, uC]
      refine rn_done (by kernel_rfl) ?_ _
      clear hS
      go_wp2_with fail
      exact ⟨⟨k + 1, by go_num, by omega, ⟨U9.out.wb⟩⟩, by simp [intOf]; omega⟩
    ·skip
     refine ow_lit1' _ rfl zm rfl ?_
     obtain ⟨u1, hu1⟩ : ∃ u, u0.alloc (.cells #[.int .u8 zm] 5) = u := ⟨_, rfl⟩
     rw [hu1]
     have X3 : Hd (Xr (.slice A4 N c4) u1 (.slice (some ⟨u0.heap.size, 0, none⟩) 1 1) [zm]) := ⟨by rw [← hu1]; exact U0.out.xr zm⟩
     have U1 := Hd.mk (U0.out.lit zm)
     have hS := Hd.mk (see3k hS.out (((Kp.refl (fun _ => False) u0).alloc (.cells #[.int .u8 zm] 5))))
     rw [hu1] at U1 hS
     refine hK _ _ (fun _ => hS.out) ?_
     clear hK K hu1
     simp only [Act.put, uA, uB, uC]
     refine rn_one (i := 4) (dst := some 38) rfl (by kernel_rfl) rfl rfl (fun K hK => ?_)
     refine ow_call 117 _ _ rfl Tryz.func117 (by kernel_rfl) (by kernel_rfl) [.slice A4 N c4, .int .i64 (f : Int)] rfl (two_at l U1.out.ob U1.out.ge f (by omega) (by have := U1.out.len; omega)) ?_
     rintro e u2 ⟨v5, l5, rfl, hb, hl, hk2, hn2⟩
     have U2 := Hd.mk (U1.out.two hb hl hk2 hn2)
     have hS := Hd.mk (U1.out.see3 hS.out hk2)
     have X3 := Hd.mk (X3.out.two hk2 hn2)
     refine ⟨_, rfl, hK _ _ (fun _ => hS.out) ?_⟩
     clear hK K hb hl hk2 hn2
     simp only [Act.put, uA, uB, uC]
     refine rn_one (i := 8) (dst := some 42) rfl (by kernel_rfl) rfl rfl (fun K hK => ?_)
     refine ow_call 117 _ _ rfl Tryz.func117 (by kernel_rfl) (by kernel_rfl) [v5, .int .i64 (t : Int)] rfl (two_at l5 U2.out.ob U2.out.ge t (by omega) (by have := U2.out.len; omega)) ?_
     rintro e u3 ⟨v6, l6, rfl, hb, hl, hk2, hn2⟩
     have U3 := Hd.mk (U2.out.two hb hl hk2 hn2)
     have hS := Hd.mk (U2.out.see3 hS.out hk2)
     have X3 := Hd.mk (X3.out.two hk2 hn2)
     refine ⟨_, rfl, hK _ _ (fun _ => hS.out) ?_⟩
     clear hK K hb hl hk2 hn2
     simp only [Act.put, uA, uB, uC]
     refine rn_one (i := 14) (dst := some 48) rfl (by kernel_rfl) rfl rfl (fun K hK => ?_)
     refine ow_ob2 _ _ rfl v6 l6 rfl U3.out.ob U3.out.ge (.slice (some ⟨u0.heap.size, 0, none⟩) 1 1) [zm] rfl X3.out.row (by have := U3.out.len; simp only [List.length_cons, List.length_nil]; omega) ?_
     intro v7 w7 h7 k7 n7
     have U9 := Hd.mk (U3.out.app h7 k7)
     have hS := Hd.mk (U3.out.see3 hS.out k7)
     refine hK _ _ (fun _ => hS.out) ?_
     clear hK K h7 k7 n7
     simp only [Act.put, uA, uB, uC]
     refine rnA 15 5 (v7) (fun W hW => ex_assign W _ _ rfl rfl) hS.out ?_
     simp only [Act.put, uA, uB, uC]
     refine rn_done (by kernel_rfl) ?_ _
     clear hS
     go_wp2_with fail
     exact ⟨⟨k + 1, by go_num, by omega, ⟨U9.out.wb⟩⟩, by simp [intOf]; omega⟩
   ·have hltI : ¬ (k : Int) < (nf : Int) := by omega
    obtain rfl : k = nf := by omega
    obtain ⟨l, hl, hll0⟩ := HK.out.ob
    obtain ⟨A4, c4, rfl, _⟩ := hl.bs
    obtain ⟨N, hNe⟩ : ∃ N, l.length = N := ⟨_, rfl⟩
    have hll : Hd (l.length = 2 + 5 * k) := ⟨hll0⟩
    rw [hNe] at hl ⊢
    clear hNe hll0
    obtain ⟨zs, hzs⟩ : ∃ z, Hd (IntKind.u8.wrap (ns : Int) = z) := ⟨_, ⟨rfl⟩⟩
    have hob := Hd.mk (hl.keep ((Kp.refl (fun _ => False) wr).alloc (.cells #[.int .u8 zs] 5)))
    have hyb : Hd (Bs (wr.alloc (.cells #[.int .u8 zs] 5)) (.slice (some ⟨wr.heap.size, 0, none⟩) 1 1) [zs]) := ⟨fresh_Bs wr 5 [zs]⟩
    have hsz : Hd (w1.heap.size ≤ (wr.alloc (.cells #[.int .u8 zs] 5)).heap.size) := ⟨by rw [size_alloc']; have := HK.out.kp.size; omega⟩
    have hbd : Hd (l.length + [zs].length ≤ 1000000000000) := ⟨by have := hll.out; simp only [List.length_cons, List.length_nil]; omega⟩
    obtain ⟨⟨_, d1, _⟩, _⟩ := hbx.out wr HK.out.kp
    have kal : Hd (KZ w1 (wr.alloc (.cells #[.int .u8 zs] 5))) := ⟨HK.out.kp.alloc _⟩
    clear hl
    go_wp2_with (first | (with_reducible refine wl_run rfl (ex_convz _ 3 5 (.tmp 52) rfl (by kernel_rfl) .u8 U5 .i64 (ns : Int) zs rfl hzs.out) ?_) | ((with_reducible refine wl_ob rfl (.tmp 49) (.tmp 54) rfl (.slice A4 N c4) l rfl hob.out hsz.out (.slice (some ⟨wr.heap.size, 0, none⟩) 1 1) [zs] rfl hyb.out hbd.out ?_); intro v7 w7 h7 hb7; have h7 := Hd.mk h7; have K7 := Hd.mk (kal.out.andThen (Kp.of_below' hb7) (fun i hi e => by omega)); clear hb7; obtain ⟨⟨_, f1, _⟩, _⟩ := hbx.out w7 K7.out))
    have hst0 : Hd (Wb w1.heap.size w1 w7 v7 (3 + 5 * k + slen (ss.take 0))) := ⟨⟨⟨_, h7.out, by rw [List.length_append, hll.out]; simp [slen]; omega⟩, K7.out⟩⟩
    have hsb : Hd (∀ i, i ≤ ns → slen (ss.take i) ≤ 25 * i) := ⟨fun i hi => by
     induction i with
     | zero => simp [slen]
     | succ i ih =>
      obtain ⟨x, hx⟩ : ∃ x, ss[i]? = some x := ⟨_, List.getElem?_eq_getElem (by rw [hns.out]; omega)⟩
      rw [slen_take hx]
      have := ih (by omega)
      have := hsl.out i x hx
      omega⟩
    clear h7 hob hyb hsz hbd kal hll HK f1
    go_loopw [5, 8] (fun v4 v55 wr => ∃ i : Nat, v55 = .int .i64 i ∧ i ≤ ns ∧ Hd (Wb w1.heap.size w1 wr v4 (3 + 5 * k + slen (ss.take i)))) (fun _ v55 _ => ns - (intOf v55).toNat)
    case atStart => exact ⟨0, rfl, Nat.zero_le _, hst0⟩
    case round =>
     clear hst0
     obtain ⟨i, rfl, hi, HI⟩ := hrel
     obtain ⟨l, hl, hll0⟩ := HI.out.ob
     obtain ⟨A4, c4, rfl, _⟩ := hl.bs
     obtain ⟨N, hNe⟩ : ∃ N, l.length = N := ⟨_, rfl⟩
     have hll : Hd (l.length = 3 + 5 * k + slen (ss.take i) ∧ l.length = N) := ⟨hll0, hNe⟩
     rw [hNe] at hl ⊢
     clear hNe hll0
     have hl := Hd.mk hl
     obtain ⟨⟨b0, b1, b2⟩, _⟩ := hbx.out wr HI.out.kp
     by_cases h2 : i < ns
     ·have hiI : (i : Int) < (ns : Int) := by omega
      obtain ⟨x, hx⟩ : ∃ x, ss[i]? = some x := ⟨_, List.getElem?_eq_getElem (by rw [hns.out]; exact h2)⟩
      obtain ⟨g, o, rfl, c1⟩ := (HS.out.keep HI.out.kp).cell hx
      have hxl := Hd.mk (hsl.out i x hx)
      have hst := Hd.mk (slen_take hx)
      have hxi := Hd.mk hx
      clear hx
      obtain ⟨zx, hzx⟩ : ∃ z, Hd (IntKind.u8.wrap (x.length : Int) = z) := ⟨_, ⟨rfl⟩⟩
      have K0 : Hd (KZ w1 wr.drew) := ⟨HI.out.kp.drew⟩
      have hl0 : Hd (Ob w1.heap.size wr.drew (.slice A4 N c4) l) := ⟨hl.out.keep (Kp.refl _ _).drew⟩
      have hS : Hd ((fun W : World => W.cell? ⟨w.heap.size, 1, none⟩ = some (.slice (some ⟨g, o, none⟩) ns cS) ∧ W.cell? ⟨g, o + i, none⟩ = some (.string ⟨x.toArray⟩)) wr.drew) := ⟨⟨b1, c1⟩⟩
      have hgw : Hd (w.heap.size < w1.heap.size ∧ g < wr.heap.size) := ⟨by rw [← hwq.out, size_alloc']; omega, World.block_lt_of_cell? wr _ c1⟩
      have hgo : Hd (∀ W, KZ w1 W → W.cell? ⟨w.heap.size, 1, none⟩ = some (.slice (some ⟨g, o, none⟩) ns cS) ∧ W.cell? ⟨g, o + i, none⟩ = some (.string ⟨x.toArray⟩)) := ⟨fun W hk => by
       obtain ⟨⟨_, h1, _⟩, _⟩ := hbx.out W hk
       obtain ⟨_, _, hA, h2⟩ := (HS.out.keep hk).cell hxi.out
       cases hA
       exact ⟨h1, h2⟩⟩
      clear hl c1 b0 b2
      go_wp2_with fail
      refine rn_begin (fun W : World => W.cell? ⟨w.heap.size, 1, none⟩ = some (.slice (some ⟨g, o, none⟩) ns cS) ∧ W.cell? ⟨g, o + i, none⟩ = some (.string ⟨x.toArray⟩)) (List.range 17) (by kernel_rfl) ?_
      refine rnA 0 63 (.slice A4 N c4) (rnM rfl rfl) hS.out ?_
      refine rnA 1 64 (.pointer (some ⟨w.heap.size, 1, none⟩)) (erF 50 1 _ rfl w.heap.size 0 0 1 1 Tryz.underlying50 rfl) hS.out ?_
      simp only [Act.put, uA, uB, uC]
      refine rnA 2 65 (.slice (some ⟨g, o, none⟩) ns cS) (fun W hW => ex_load W 48 _ _ rfl ⟨w.heap.size, 1, none⟩ U48 rfl rfl (hW.1)) hS.out ?_
      refine rnA 3 66 (.int .i64 ((i : Nat) : Int)) (rnM rfl rfl) hS.out ?_
      simp only [Act.put, uA, uB, uC]
      refine rnA 4 67 (.pointer (some ⟨g, o + i, none⟩)) (erI 48 9 _ _ rfl 1 i U48 g o _ _ (o + i)) hS.out ?_
      refine rnA 5 68 (.string ⟨(x).toArray⟩) (fun W hW => ex_load W 9 _ _ rfl ⟨g, o + i, none⟩ U9 rfl rfl (hW.2)) hS.out ?_
      simp only [Act.put, uA, uB, uC]
      refine rnA 6 69 (.int .i64 ((x.length : Nat) : Int)) (fun W hW => ex_slen W 9 _ rfl U9 x rfl) hS.out ?_
      refine rnA 7 70 (.int .u8 zx) (fun W hW => ex_convz W 3 5 _ rfl (by kernel_rfl) .u8 U5 .i64 (x.length : Int) zx rfl hzx.out) hS.out ?_
      simp only [Act.put, uA, uB, uC]
      refine rnA 10 73 (.pointer (some ⟨w.heap.size, 1, none⟩)) (erF 50 1 _ rfl w.heap.size 0 0 1 1 Tryz.underlying50 rfl) hS.out ?_
      refine rnA 11 74 (.slice (some ⟨g, o, none⟩) ns cS) (fun W hW => ex_load W 48 _ _ rfl ⟨w.heap.size, 1, none⟩ U48 rfl rfl (hW.1)) hS.out ?_
      simp only [Act.put, uA, uB, uC]
      refine rnA 12 75 (.int .i64 ((i : Nat) : Int)) (rnM rfl rfl) hS.out ?_
      refine rnA 13 76 (.pointer (some ⟨g, o + i, none⟩)) (erI 48 9 _ _ rfl 1 i U48 g o _ _ (o + i)) hS.out ?_
      simp only [Act.put, uA, uB, uC]
      refine rnA 14 77 (.string ⟨(x).toArray⟩) (fun W hW => ex_load W 9 _ _ rfl ⟨g, o + i, none⟩ U9 rfl rfl (hW.2)) hS.out ?_
      simp only [Act.put, uA, uB, uC]
      generalize wr.drew = u0 at *
      refine rn_one (i := 8) (dst := some 71) rfl (by kernel_rfl) rfl rfl (fun K hK => ?_)
      refine ow_lit1' _ rfl zx rfl ?_
      have K1 := Hd.mk (K0.out.alloc (.cells #[.int .u8 zx] 5))
      have hl1 := Hd.mk (hl0.out.keep ((Kp.refl (fun _ => False) u0).alloc (.cells #[.int .u8 zx] 5)))
      have hx1 : Hd (Bs (u0.alloc (.cells #[.int .u8 zx] 5)) (.slice (some ⟨u0.heap.size, 0, none⟩) 1 1) [zx]) := ⟨fresh_Bs u0 5 [zx]⟩
      have hS1 := Hd.mk (hgo.out _ K1.out)
      refine hK _ _ (fun _ => hS1.out) ?_
      clear hK K hS K0 hl0
      have hS := hS1
      clear hS1
      simp only [Act.put, uA, uB, uC]
      refine rn_one (i := 9) (dst := some 72) rfl (by kernel_rfl) rfl rfl (fun K hK => ?_)
      refine ow_ob _ _ rfl (.slice A4 N c4) l rfl hl1.out K1.out.size (.slice (some ⟨u0.heap.size, 0, none⟩) 1 1) [zx] rfl hx1.out (by have := hll.out.1; have := hsb.out i hi; simp only [List.length_cons, List.length_nil]; omega) ?_
      intro v2 u2 h2 hb2
      have K2' := Hd.mk (K1.out.andThen (Kp.of_below' hb2) (fun i hi e => by omega))
      have hS1 := Hd.mk (hgo.out _ K2'.out)
      refine hK _ _ (fun _ => hS1.out) ?_
      clear hK K hS hb2
      have hS := hS1
      clear hS1
      have h2 := Hd.mk h2
      simp only [Act.put, uA, uB, uC]
      refine rn_one (i := 15) (dst := some 78) rfl (by kernel_rfl) rfl rfl (fun K hK => ?_)
      refine ow_obS _ _ rfl v2 _ rfl h2.out K2'.out.size x rfl (by have := hll.out.1; have := hsb.out i hi; have := hxl.out; simp only [List.length_append, List.length_cons, List.length_nil]; omega) ?_
      intro v3 u3 h3 hb3
      have K3' := Hd.mk (K2'.out.andThen (Kp.of_below' hb3) (fun i hi e => by omega))
      have hS1 := Hd.mk (hgo.out _ K3'.out)
      refine hK _ _ (fun _ => hS1.out) ?_
      clear hK K hS hb3
      have hS := hS1
      clear hS1
      have h3 := Hd.mk h3
      simp only [Act.put, uA, uB, uC]
      refine rnA 16 5 (v3) (fun W hW => ex_assign W _ _ rfl rfl) hS.out ?_
      simp only [Act.put, uA, uB, uC]
      refine rn_done (by kernel_rfl) ?_ _
      clear hS
      go_wp2_with fail
      refine And.intro (Exists.intro (i + 1) ⟨by go_num, by omega, ⟨⟨⟨_, h3.out, ?_⟩, K3'.out⟩⟩⟩) (by simp [intOf]; omega)
      rw [hst.out]
      have := hll.out.1
      simp only [List.length_append, List.length_cons, List.length_nil, ints_length]
      omega
     ·have hiI : ¬ (i : Int) < (ns : Int) := by omega
      have hin : i = ns := by omega
      have hN : Hd (N = 3 + 5 * fl.length + slen ss) := ⟨by
       have := hll.out
       rw [List.take_of_length_le (by rw [hns.out]; omega)] at this
       have := hnf.out
       omega⟩
      have hNb : N ≤ 3 + 40 + 25 * 32 := by
       have := hll.out
       have := hsb.out i hi
       omega
      by_cases hbig : 240 < N
      ·have hbI : (240 : Int) < (N : Int) := by omega
       go_wp2_with fail
       go_ret2
       exact ⟨⟨_, 3, rfl, ⟨fun h => (by cases h), fun h => (by have := h.2; have := hN.out; omega)⟩, .inr (.inl rfl)⟩, k01.out.th HI.out.kp⟩
      ·have hbI : ¬ (240 : Int) < (N : Int) := by omega
       go_wp2_with fail
       go_ret2
       exact ⟨⟨_, 0, rfl, ⟨fun _ => ⟨hmay.out, by have := hN.out; omega⟩, fun _ => rfl⟩, .inl rfl⟩, k01.out.th HI.out.kp⟩
end Go.Proofs.YtkcechpaeilaeaaGreatDoor
