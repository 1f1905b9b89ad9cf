/- Joined out of: Pd. -/
import Derived.Test.YtkcechpaeilaeaaGreatDoorK15
import Derived.Laws.StructEq
import Derived.ChangeKeysEq
import Derived.Test.YtkcechpaeilaeaaGreatDoorK32
set_option linter.unusedVariables false
set_option linter.unusedSimpArgs false
namespace Go.Proofs.YtkcechpaeilaeaaGreatDoor
open Go.RowKit
set_option maxRecDepth 20000
theorem ex_neqFo {o : Oper} {a : Act} (w : World) (x y : Operand) (ho : o.op = .binOp .neq 100 x y 100) (f1 t1 n1 f2 t2 n2 : Int) (hx : a.eval x = .agg ([.int .i32 f1, .int .i32 t1, .int .i64 n1] : List Value).toArray)
  (hy : a.eval y = .agg ([.int .i32 f2, .int .i32 t2, .int .i64 n2] : List Value).toArray) (b : Bool) (hb : (f1 == f2 && (t1 == t2 && n1 == n2)) = !b) : (execOp a.eval o).run Tryz.prog w = .ok (.value (.bool b)) w := by
 have e : (Tryz.prog.fieldsOf 100).toList.map (fun f => (f.name, f.type, f.offset)) = [("From", 21, 0), ("To", 21, 1), ("N", 3, 2)] := by kernel_rfl
 obtain ⟨l, hl⟩ : ∃ l, (Tryz.prog.fieldsOf 100).toList = l := ⟨_, rfl⟩
 have h0 : (Op.eqFields 9999 ([.int .i32 f1, .int .i32 t1, .int .i64 n1] : List Value).toArray ([.int .i32 f2, .int .i32 t2, .int .i64 n2] : List Value).toArray (Tryz.prog.fieldsOf 100).toList).run Tryz.prog w = .ok (f1 == f2 && (t1 == t2 && n1 == n2)) w := by
  rw [hl] at e ⊢
  match l, e with
  | [a1, a2, a3], e =>
   simp only [List.map_cons, List.map_nil, List.cons.injEq, Prod.mk.injEq, and_true] at e
   obtain ⟨⟨h1, h2, h3⟩, ⟨h4, h5, h6⟩, h7, h8, h9⟩ := e
   have p1 : ∀ f t n : Int, (part 21 ([.int .i32 f, .int .i32 t, .int .i64 n] : List Value).toArray 0).run Tryz.prog w = .ok (.int .i32 f) w := fun f t n => run_part_plain w (by kernel_rfl) rfl
   have p2 : ∀ f t n : Int, (part 21 ([.int .i32 f, .int .i32 t, .int .i64 n] : List Value).toArray 1).run Tryz.prog w = .ok (.int .i32 t) w := fun f t n => run_part_plain w (by kernel_rfl) rfl
   have p3 : ∀ f t n : Int, (part 3 ([.int .i32 f, .int .i32 t, .int .i64 n] : List Value).toArray 2).run Tryz.prog w = .ok (.int .i64 n) w := fun f t n => run_part_plain w (by kernel_rfl) rfl
   have d1 : (a1.name ≠ "_") = True := by rw [h1]; simp
   have d2 : (a2.name ≠ "_") = True := by rw [h4]; simp
   have d3 : (a3.name ≠ "_") = True := by rw [h7]; simp
   simp only [Op.eqFields, d1, d2, d3, if_true, h2, h3, h5, h6, h8, h9, Sem.run_bind, Sem.run_ite, p1, p2, p3, Result.andThen_ok, run_equalIn_int w 9998 21 .i32 .i32 f1 f2 U21, run_equalIn_int w 9998 21 .i32 .i32 t1 t2 U21, run_equalIn_int w 9998 3 .i64 .i64 n1 n2 U3, Sem.run_pure]
   cases (f1 == f2) <;> cases (t1 == t2) <;> cases (n1 == n2) <;> simp
 unfold execOp
 simp only [ho, hx, hy, Sem.run_bind, run_eqGuard_agg w _ _ _ _ _ _ Tryz.eqGuardType100, Result.andThen_ok, run_neq_struct, run_equalIn_agg w 9999 100 _ _ (by kernel_rfl) Tryz.stoodInHeld100, h0, hb, Bool.not_not]
 rfl
theorem list_ext {α : Type} {a b : List α} (hl : a.length = b.length) (h : ∀ i, i < a.length → a[i]? = b[i]?) : a = b := by
 apply List.ext_getElem?
 intro i
 rcases Nat.lt_or_ge i a.length with h1 | h1
 ·exact h i h1
 ·rw [List.getElem?_eq_none h1, List.getElem?_eq_none (by omega)]
set_option maxHeartbeats 4000000 in
theorem eqfolds_at {w : World} {A B : Option Addr} {cA cB : Nat} (la lb : List Fo) (hl : la.length ≤ 1000000) (ha : Fr w (.slice A la.length cA) la) (hb : Fr w (.slice B lb.length cB) lb) : Calls Tryz.prog 93 #[.slice A la.length cA, .slice B lb.length cB] w fun e w' => BoR (la = lb) w w' e := by
 have HA := Hd.mk ha
 have HB := Hd.mk hb
 obtain ⟨n, hn⟩ : ∃ n, la.length = n := ⟨_, rfl⟩
 obtain ⟨m, hm⟩ : ∃ m, lb.length = m := ⟨_, rfl⟩
 rw [hn] at hl HA
 rw [hm] at HB
 rw [hn, hm]
 have hnq := Hd.mk hn
 have hmq := Hd.mk hm
 clear ha hb hn hm
 by_cases hnm : n = m
 rotate_left
 ·have hI : ((n : Int) == (m : Int)) = false := by simp only [beq_eq_false_iff_ne, ne_eq]; omega
  have hI2 : ¬ (n : Int) = (m : Int) := by omega
  have hnm := Hd.mk hnm
  go_enter Tryz.func93, Tryz.ntmps93
  go_wp2_with fail
  go_ret
  exact ⟨⟨false, rfl, ⟨fun h => (by cases h), fun h => absurd (by rw [← hnq.out, ← hmq.out, h]) hnm.out⟩⟩, Kp.refl _ _⟩
 ·subst hnm
  go_enter Tryz.func93, Tryz.ntmps93
  go_wp2_with fail
  go_loopw [13] (fun v13 wr => ∃ k : Nat, v13 = .int .i64 k ∧ k ≤ n ∧ Hd (KZ w wr ∧ ∀ i, i < k → la[i]? = lb[i]?)) (fun v13 _ => n - (intOf v13).toNat)
  case atStart => exact ⟨0, rfl, Nat.zero_le _, ⟨Kp.refl _ _, fun i hi => absurd hi (Nat.not_lt_zero _)⟩⟩
  case round =>
   obtain ⟨k, rfl, hk, HK⟩ := hrel
   have hkb : (k : Int) + 1 ≤ 1000001 := by omega
   by_cases h1 : k < n
   ·have hltI : (k : Int) < (n : Int) := by omega
    obtain ⟨x, hx⟩ : ∃ x, la[k]? = some x := ⟨_, List.getElem?_eq_getElem (by rw [hnq.out]; exact h1)⟩
    obtain ⟨y, hy⟩ : ∃ y, lb[k]? = some y := ⟨_, List.getElem?_eq_getElem (by rw [hmq.out]; exact h1)⟩
    obtain ⟨b1, o1, rfl, r1⟩ := (HA.out.keep HK.out.1).row hx
    obtain ⟨b2, o2, rfl, r2⟩ := (HB.out.keep HK.out.1).row hy
    have hx := Hd.mk hx
    have hy := Hd.mk hy
    obtain ⟨f1, t1, n1⟩ := x
    obtain ⟨f2, t2, n2⟩ := y
    simp only at r1 r2
    have hS : Hd ((fun W : World => W.rangeAt b1 (o1 + k * 3) [.int .i32 f1, .int .i32 t1, .int .i64 n1] ∧ W.rangeAt b2 (o2 + k * 3) [.int .i32 f2, .int .i32 t2, .int .i64 n2]) wr.drew) := ⟨⟨r1, r2⟩⟩
    clear r1 r2
    obtain ⟨q, hq⟩ : ∃ q, Hd ((f1 == f2 && (t1 == t2 && n1 == n2)) = !q) := ⟨!(f1 == f2 && (t1 == t2 && n1 == n2)), ⟨by simp⟩⟩
    cases q
    ·go_wp2_with fail
     refine rn_begin (fun W : World => W.rangeAt b1 (o1 + k * 3) [.int .i32 f1, .int .i32 t1, .int .i64 n1] ∧ W.rangeAt b2 (o2 + k * 3) [.int .i32 f2, .int .i32 t2, .int .i64 n2]) (List.range 9) (by kernel_rfl) ?_
     refine rnA 0 16 (.slice (some ⟨b1, o1, none⟩) n cA) (rnM rfl rfl) hS.out ?_
     refine rnA 1 17 (.int .i64 ((k : Nat) : Int)) (rnM rfl rfl) hS.out ?_
     simp only [Act.put, uA, uB, uC]
     refine rnA 2 18 (.pointer (some ⟨b1, o1 + k * 3, none⟩)) (erI 47 100 _ _ rfl 3 k U47 b1 o1 _ _ (o1 + k * 3)) hS.out ?_
     refine rnA 3 19 (.agg ([.int .i32 f1, .int .i32 t1, .int .i64 n1] : List Value).toArray) (fun W hW => ex_load_mid W 100 _ rfl b1 (o1 + k * 3) rfl _ hW.1 Tryz.underlying100 rfl (by kernel_rfl)) hS.out ?_; simp only [Act.put, uA, uB, uC]
     refine rnA 4 20 (.slice (some ⟨b2, o2, none⟩) n cB) (rnM rfl rfl) hS.out ?_
     simp only [Act.put, uA, uB, uC]
     refine rnA 5 21 (.int .i64 ((k : Nat) : Int)) (rnM rfl rfl) hS.out ?_
     refine rnA 6 22 (.pointer (some ⟨b2, o2 + k * 3, none⟩)) (erI 47 100 _ _ rfl 3 k U47 b2 o2 _ _ (o2 + k * 3)) hS.out ?_
     simp only [Act.put, uA, uB, uC]
     refine rnA 7 23 (.agg ([.int .i32 f2, .int .i32 t2, .int .i64 n2] : List Value).toArray) (fun W hW => ex_load_mid W 100 _ rfl b2 (o2 + k * 3) rfl _ hW.2 Tryz.underlying100 rfl (by kernel_rfl)) hS.out ?_; simp only [Act.put, uA, uB, uC]
     refine rnA 8 24 (.bool false) (fun W hW => ex_neqFo W _ _ rfl f1 t1 n1 f2 t2 n2 rfl rfl false hq.out) hS.out ?_; simp only [Act.put, uA, uB, uC]
     refine rn_done (by kernel_rfl) ?_ _
     clear hS
     go_wp2_with fail
     exact ⟨⟨k + 1, by go_num, by omega, ⟨HK.out.1.drew, fun i hi => by
      by_cases e : i = k
      ·subst e
       have := hq.out
       simp only [Bool.not_false, Bool.and_eq_true, beq_iff_eq] at this
       obtain ⟨h1, h2, h3⟩ := this
       rw [hx.out, hy.out, h1, h2, h3]
      ·exact HK.out.2 i (by omega)⟩⟩, by simp [intOf]; omega⟩
    ·go_wp2_with fail
     refine rn_begin (fun W : World => W.rangeAt b1 (o1 + k * 3) [.int .i32 f1, .int .i32 t1, .int .i64 n1] ∧ W.rangeAt b2 (o2 + k * 3) [.int .i32 f2, .int .i32 t2, .int .i64 n2]) (List.range 9) (by kernel_rfl) ?_
     refine rnA 0 16 (.slice (some ⟨b1, o1, none⟩) n cA) (rnM rfl rfl) hS.out ?_
     refine rnA 1 17 (.int .i64 ((k : Nat) : Int)) (rnM rfl rfl) hS.out ?_
     simp only [Act.put, uA, uB, uC]
     refine rnA 2 18 (.pointer (some ⟨b1, o1 + k * 3, none⟩)) (erI 47 100 _ _ rfl 3 k U47 b1 o1 _ _ (o1 + k * 3)) hS.out ?_
     refine rnA 3 19 (.agg ([.int .i32 f1, .int .i32 t1, .int .i64 n1] : List Value).toArray) (fun W hW => ex_load_mid W 100 _ rfl b1 (o1 + k * 3) rfl _ hW.1 Tryz.underlying100 rfl (by kernel_rfl)) hS.out ?_; simp only [Act.put, uA, uB, uC]
     refine rnA 4 20 (.slice (some ⟨b2, o2, none⟩) n cB) (rnM rfl rfl) hS.out ?_
     simp only [Act.put, uA, uB, uC]
     refine rnA 5 21 (.int .i64 ((k : Nat) : Int)) (rnM rfl rfl) hS.out ?_
     refine rnA 6 22 (.pointer (some ⟨b2, o2 + k * 3, none⟩)) (erI 47 100 _ _ rfl 3 k U47 b2 o2 _ _ (o2 + k * 3)) hS.out ?_
     simp only [Act.put, uA, uB, uC]
     refine rnA 7 23 (.agg ([.int .i32 f2, .int .i32 t2, .int .i64 n2] : List Value).toArray) (fun W hW => ex_load_mid W 100 _ rfl b2 (o2 + k * 3) rfl _ hW.2 Tryz.underlying100 rfl (by kernel_rfl)) hS.out ?_; simp only [Act.put, uA, uB, uC]
     refine rnA 8 24 (.bool true) (fun W hW => ex_neqFo W _ _ rfl f1 t1 n1 f2 t2 n2 rfl rfl true hq.out) hS.out ?_; simp only [Act.put, uA, uB, uC]
     refine rn_done (by kernel_rfl) ?_ _
     clear hS
     go_wp2_with fail
     go_ret
     exact ⟨⟨false, rfl, ⟨fun h => (by cases h), fun h => (by
      subst h
      have := hx.out.symm.trans hy.out
      injection this with this
      injection this with h1 h2 h3
      have := hq.out
      rw [h1, h2, h3] at this
      simp at this)⟩⟩, HK.out.1.drew⟩
   ·have hltI : ¬ (k : Int) < (n : Int) := by omega
    go_wp2_with fail
    go_ret
    exact ⟨⟨true, rfl, ⟨fun _ => list_ext (by rw [hnq.out, hmq.out]) (fun i hi => HK.out.2 i (by have := hnq.out; omega)), fun _ => rfl⟩⟩, HK.out.1⟩
end Go.Proofs.YtkcechpaeilaeaaGreatDoor
namespace Go.Proofs.YtkcechpaeilaeaaGreatDoor
open Go.RowKit
set_option maxRecDepth 20000
set_option maxHeartbeats 4000000 in
theorem eqwords_at {w : World} {A B : Option Addr} {cA cB : Nat} (la lb : List (List UInt8)) (hl : la.length ≤ 1000000) (ha : Wos w (.slice A la.length cA) la) (hb : Wos w (.slice B lb.length cB) lb) : Calls Tryz.prog 94 #[.slice A la.length cA, .slice B lb.length cB] w fun e w' => BoR (la = lb) w w' e := by
 have HA := Hd.mk ha
 have HB := Hd.mk hb
 obtain ⟨n, hn⟩ : ∃ n, la.length = n := ⟨_, rfl⟩
 obtain ⟨m, hm⟩ : ∃ m, lb.length = m := ⟨_, rfl⟩
 rw [hn] at hl HA
 rw [hm] at HB
 rw [hn, hm]
 have hnq := Hd.mk hn
 have hmq := Hd.mk hm
 clear ha hb hn hm
 by_cases hnm : n = m
 rotate_left
 ·have hI : ((n : Int) == (m : Int)) = false := by simp only [beq_eq_false_iff_ne, ne_eq]; omega
  have hI2 : ¬ (n : Int) = (m : Int) := by omega
  have hnm := Hd.mk hnm
  go_enter Tryz.func94, Tryz.ntmps94
  go_wp2_with fail
  go_ret
  exact ⟨⟨false, rfl, ⟨fun h => (by cases h), fun h => absurd (by rw [← hnq.out, ← hmq.out, h]) hnm.out⟩⟩, Kp.refl _ _⟩
 ·subst hnm
  go_enter Tryz.func94, Tryz.ntmps94
  go_wp2_with fail
  go_loopw [13] (fun v13 wr => ∃ k : Nat, v13 = .int .i64 k ∧ k ≤ n ∧ Hd (KZ w wr ∧ ∀ i, i < k → la[i]? = lb[i]?)) (fun v13 _ => n - (intOf v13).toNat)
  case atStart => exact ⟨0, rfl, Nat.zero_le _, ⟨Kp.refl _ _, fun i hi => absurd hi (Nat.not_lt_zero _)⟩⟩
  case round =>
   obtain ⟨k, rfl, hk, HK⟩ := hrel
   have hkb : (k : Int) + 1 ≤ 1000001 := by omega
   by_cases h1 : k < n
   ·have hltI : (k : Int) < (n : Int) := by omega
    obtain ⟨x, hx⟩ : ∃ x, la[k]? = some x := ⟨_, List.getElem?_eq_getElem (by rw [hnq.out]; exact h1)⟩
    obtain ⟨y, hy⟩ : ∃ y, lb[k]? = some y := ⟨_, List.getElem?_eq_getElem (by rw [hmq.out]; exact h1)⟩
    obtain ⟨b1, o1, rfl, r1⟩ := (HA.out.keep HK.out.1).cell hx
    obtain ⟨b2, o2, rfl, r2⟩ := (HB.out.keep HK.out.1).cell hy
    have hx := Hd.mk hx
    have hy := Hd.mk hy
    have hS : Hd ((fun W : World => W.cell? ⟨b1, o1 + k, none⟩ = some (.string ⟨x.toArray⟩) ∧ W.cell? ⟨b2, o2 + k, none⟩ = some (.string ⟨y.toArray⟩)) wr.drew) := ⟨⟨r1, r2⟩⟩
    clear r1 r2
    obtain ⟨q, hq⟩ : ∃ q, Hd ((x != y) = q) := ⟨_, ⟨rfl⟩⟩
    cases q
    ·go_wp2_with fail
     refine rn_begin (fun W : World => W.cell? ⟨b1, o1 + k, none⟩ = some (.string ⟨x.toArray⟩) ∧ W.cell? ⟨b2, o2 + k, none⟩ = some (.string ⟨y.toArray⟩)) (List.range 9) (by kernel_rfl) ?_
     refine rnA 0 16 (.slice (some ⟨b1, o1, none⟩) n cA) (rnM rfl rfl) hS.out ?_
     refine rnA 1 17 (.int .i64 ((k : Nat) : Int)) (rnM rfl rfl) hS.out ?_
     simp only [Act.put, uA, uB, uC]
     refine rnA 2 18 (.pointer (some ⟨b1, o1 + k, none⟩)) (erI 48 9 _ _ rfl 1 k U48 b1 o1 _ _ (o1 + k)) hS.out ?_
     refine rnA 3 19 (.string ⟨(x).toArray⟩) (fun W hW => ex_load W 9 _ _ rfl ⟨b1, o1 + k, none⟩ U9 rfl rfl (hW.1)) hS.out ?_
     simp only [Act.put, uA, uB, uC]
     refine rnA 4 20 (.slice (some ⟨b2, o2, none⟩) n cB) (rnM rfl rfl) hS.out ?_
     refine rnA 5 21 (.int .i64 ((k : Nat) : Int)) (rnM rfl rfl) hS.out ?_
     simp only [Act.put, uA, uB, uC]
     refine rnA 6 22 (.pointer (some ⟨b2, o2 + k, none⟩)) (erI 48 9 _ _ rfl 1 k U48 b2 o2 _ _ (o2 + k)) hS.out ?_
     refine rnA 7 23 (.string ⟨(y).toArray⟩) (fun W hW => ex_load W 9 _ _ rfl ⟨b2, o2 + k, none⟩ U9 rfl rfl (hW.2)) hS.out ?_
     simp only [Act.put, uA, uB, uC]
     refine rnA 8 24 (.bool false) (fun W hW => ex_sneq W 9 9 _ _ rfl x y false hq.out rfl rfl) hS.out ?_; simp only [Act.put, uA, uB, uC]
     refine rn_done (by kernel_rfl) ?_ _
     clear hS
     go_wp2_with fail
     exact ⟨⟨k + 1, by go_num, by omega, ⟨HK.out.1.drew, fun i hi => by
      by_cases e : i = k
      ·subst e
       have h2 := hq.out
       rw [hx.out, hy.out]
       simp only [bne_eq_false_iff_eq] at h2
       rw [h2]
      ·exact HK.out.2 i (by omega)⟩⟩, by simp [intOf]; omega⟩
    ·go_wp2_with fail
     refine rn_begin (fun W : World => W.cell? ⟨b1, o1 + k, none⟩ = some (.string ⟨x.toArray⟩) ∧ W.cell? ⟨b2, o2 + k, none⟩ = some (.string ⟨y.toArray⟩)) (List.range 9) (by kernel_rfl) ?_
     refine rnA 0 16 (.slice (some ⟨b1, o1, none⟩) n cA) (rnM rfl rfl) hS.out ?_
     refine rnA 1 17 (.int .i64 ((k : Nat) : Int)) (rnM rfl rfl) hS.out ?_
     simp only [Act.put, uA, uB, uC]
     refine rnA 2 18 (.pointer (some ⟨b1, o1 + k, none⟩)) (erI 48 9 _ _ rfl 1 k U48 b1 o1 _ _ (o1 + k)) hS.out ?_
     refine rnA 3 19 (.string ⟨(x).toArray⟩) (fun W hW => ex_load W 9 _ _ rfl ⟨b1, o1 + k, none⟩ U9 rfl rfl (hW.1)) hS.out ?_
     simp only [Act.put, uA, uB, uC]
     refine rnA 4 20 (.slice (some ⟨b2, o2, none⟩) n cB) (rnM rfl rfl) hS.out ?_
     refine rnA 5 21 (.int .i64 ((k : Nat) : Int)) (rnM rfl rfl) hS.out ?_
     simp only [Act.put, uA, uB, uC]
     refine rnA 6 22 (.pointer (some ⟨b2, o2 + k, none⟩)) (erI 48 9 _ _ rfl 1 k U48 b2 o2 _ _ (o2 + k)) hS.out ?_
     refine rnA 7 23 (.string ⟨(y).toArray⟩) (fun W hW => ex_load W 9 _ _ rfl ⟨b2, o2 + k, none⟩ U9 rfl rfl (hW.2)) hS.out ?_
     simp only [Act.put, uA, uB, uC]
     refine rnA 8 24 (.bool true) (fun W hW => ex_sneq W 9 9 _ _ rfl x y true hq.out rfl rfl) hS.out ?_; simp only [Act.put, uA, uB, uC]
     refine rn_done (by kernel_rfl) ?_ _
     clear hS
     go_wp2_with fail
     go_ret
     exact ⟨⟨false, rfl, ⟨fun h => (by cases h), fun h => (by
      subst h
      have := hx.out.symm.trans hy.out
      injection this with this
      have h2 := hq.out
      rw [this] at h2
      simp at h2)⟩⟩, HK.out.1.drew⟩
   ·have hltI : ¬ (k : Int) < (n : Int) := by omega
    go_wp2_with fail
    go_ret
    exact ⟨⟨true, rfl, ⟨fun _ => list_ext (by rw [hnq.out, hmq.out]) (fun i hi => HK.out.2 i (by have := hnq.out; omega)), fun _ => rfl⟩⟩, HK.out.1⟩
end Go.Proofs.YtkcechpaeilaeaaGreatDoor
namespace Go.Proofs.YtkcechpaeilaeaaGreatDoor
open Go.RowKit
set_option maxRecDepth 100000
set_option maxHeartbeats 4000000 in
theorem wsame_at {w : World} {A1 S1 A2 S2 : Option Addr} {ca1 cs1 ca2 cs2 : Nat} (f1 f2 : List Fo) (s1 s2 : List (List UInt8)) (c1 c2 : Int) (hl : f1.length ≤ 1000000) (hl2 : s1.length ≤ 1000000)
  (hF1 : Fr w (.slice A1 f1.length ca1) f1) (hF2 : Fr w (.slice A2 f2.length ca2) f2) (hS1 : Wos w (.slice S1 s1.length cs1) s1) (hS2 : Wos w (.slice S2 s2.length cs2) s2) :
  Calls Tryz.prog 71 #[.agg #[.slice A1 f1.length ca1, .slice S1 s1.length cs1, .int .i64 c1], .agg #[.slice A2 f2.length ca2, .slice S2 s2.length cs2, .int .i64 c2]] w fun e w' => BoR (f1 = f2 ∧ s1 = s2 ∧ c1 = c2) w w' e := by
 have h93 := Hd.mk (fun w' (hk : KZ w w') => eqfolds_at (w := w') f1 f2 hl (hF1.keep hk) (hF2.keep hk))
 have h94 := Hd.mk (fun w' (hk : KZ w w') => eqwords_at (w := w') s1 s2 hl2 (hS1.keep hk) (hS2.keep hk))
 clear hF1 hF2 hS1 hS2 hl hl2
 generalize f1.length = n1 at *
 generalize f2.length = n2 at *
 generalize s1.length = m1 at *
 generalize s2.length = m2 at *
 obtain ⟨w1, hw1⟩ : ∃ w1, w.alloc (.cells #[.slice A1 n1 ca1, .slice S1 m1 cs1, .int .i64 c1] 50) = w1 := ⟨_, rfl⟩
 have hz1 : w1.heap.size = w.heap.size + 1 := by rw [← hw1, size_alloc']
 obtain ⟨w2, hw2⟩ : ∃ w2, w1.alloc (.cells #[.slice A2 n2 ca2, .slice S2 m2 cs2, .int .i64 c2] 50) = w2 := ⟨_, rfl⟩
 have k02 : Hd (KZ w w2) := ⟨by rw [← hw2, ← hw1]; exact ((Kp.refl _ w).alloc _).alloc _⟩
 have hbx : Hd (∀ w', KZ w2 w' → (w'.cell? ⟨w.heap.size, 0, none⟩ = some (.slice A1 n1 ca1) ∧ w'.cell? ⟨w.heap.size, 1, none⟩ = some (.slice S1 m1 cs1) ∧ w'.cell? ⟨w.heap.size, 2, none⟩ = some (.int .i64 c1)) ∧ (w'.cell? ⟨w.heap.size + 1, 0, none⟩ = some (.slice A2 n2 ca2) ∧ w'.cell? ⟨w.heap.size + 1, 1, none⟩ = some (.slice S2 m2 cs2) ∧ w'.cell? ⟨w.heap.size + 1, 2, none⟩ = some (.int .i64 c2))) := ⟨fun w' hk => by
  have h2 : KZ w1 w' := ((by rw [← hw2]; exact (Kp.refl _ w1).alloc _ : KZ w1 w2)).th hk
  rw [← hw1] at h2
  refine ⟨box3 _ _ _ _ _ _ h2, ?_⟩
  rw [← hz1]
  rw [← hw2] at hk
  exact box3 _ _ _ _ _ _ hk⟩
 obtain ⟨⟨d0, d1, d2⟩, e0, e1, e2⟩ := hbx.out w2 (Kp.refl _ _)
 rw [← hw2, ← hw1] at d0 d1 d2 e0 e1 e2
 have hwq : Hd ((w.alloc (.cells #[.slice A1 n1 ca1, .slice S1 m1 cs1, .int .i64 c1] 50)).alloc (.cells #[.slice A2 n2 ca2, .slice S2 m2 cs2, .int .i64 c2] 50) = w2) := ⟨by rw [hw1, hw2]⟩
 clear hw1 hw2 hz1
 have h1 := Hd.mk (h93.out w2 k02.out)
 obtain ⟨p, hp⟩ : ∃ p, Hd (decide (c1 = c2) = p) := ⟨_, ⟨rfl⟩⟩
 go_enter Tryz.func71, Tryz.ntmps71
 go_wp2_with fail
 rw [hwq.out]
 refine h1.out.mono ?_
 rintro e w3 ⟨⟨b, rfl, hb⟩, k3⟩
 have K3 := Hd.mk (k02.out.th k3)
 replace hb := Hd.mk hb
 obtain ⟨⟨_, d1', d2'⟩, _, e1', e2'⟩ := hbx.out w3 k3
 have h2 := Hd.mk (h94.out w3 K3.out)
 have k3 := Hd.mk k3
 clear d0 d1 d2 e0 e1 e2 h1
 cases b
 ·go_wp2_with (simp only [Bool.false_eq_true, if_false])
  go_ret
  exact ⟨⟨false, rfl, ⟨fun h => (by cases h), fun h => (by have := hb.out.2 h.1; cases this)⟩⟩, K3.out⟩
 ·go_wp2_with (simp only [Bool.false_eq_true, if_false])
  refine h2.out.mono ?_
  rintro e w4 ⟨⟨b2, rfl, hb2⟩, k4⟩
  have K4 := Hd.mk (K3.out.th k4)
  replace hb2 := Hd.mk hb2
  obtain ⟨⟨_, _, d2⟩, _, _, e2⟩ := hbx.out w4 (k3.out.th k4)
  clear d1' d2' e1' e2' h2 k4
  cases b2
  ·go_wp2_with (simp only [Bool.false_eq_true, if_false])
   go_ret
   exact ⟨⟨false, rfl, ⟨fun h => (by cases h), fun h => (by have := hb2.out.2 h.2.1; cases this)⟩⟩, K4.out⟩
  ·go_wp2_with (first | ((with_reducible refine wl_runG ?hw (ex_eql _ 3 3 (.tmp 19) (.tmp 21) rfl .i64 c1 c2 rfl rfl p hp.out) ?_); (case hw => rfl)))
   go_ret
   refine ⟨⟨p, rfl, ⟨fun h => ⟨hb.out.1 (by trivial), hb2.out.1 (by trivial), ?_⟩, fun h => ?_⟩⟩, K4.out⟩
   ·subst h
    exact of_decide_eq_true hp.out
   ·rw [← hp.out]
    exact decide_eq_true h.2.2
end Go.Proofs.YtkcechpaeilaeaaGreatDoor
namespace Go.Proofs.YtkcechpaeilaeaaGreatDoor
open Go.RowKit
set_option maxRecDepth 100000
theorem row5 (w : World) (v0 v1 v2 v3 v4 : Value) : (w.alloc (.cells #[v0, v1, v2, v3, v4] 24)).rangeAt w.heap.size 0 [v0, v1, v2, v3, v4] := fun j v hv => by
 rw [Lib.cell_of_heap (_root_.Go.heap_alloc_new w _)]
 simpa using hv
set_option maxHeartbeats 4000000 in
theorem eqacts_at (la lb : List A) {w : World} {X Y : Option Addr} {cX cY : Nat} (hl : la.length ≤ 1000000) (hX : Ar w (.slice X la.length cX) la) (hY : Ar w (.slice Y lb.length cY) lb) :
  Calls Tryz.prog 72 #[.slice X la.length cX, .slice Y lb.length cY, .func (.func 73) #[] #[]] w fun e w' => BoR (la = lb) w w' e := by
 have HA := Hd.mk hX
 have HB := Hd.mk hY
 obtain ⟨n, hn⟩ : ∃ n, la.length = n := ⟨_, rfl⟩
 obtain ⟨m, hm⟩ : ∃ m, lb.length = m := ⟨_, rfl⟩
 rw [hn] at hl HA
 rw [hm] at HB
 rw [hn, hm]
 have hnq := Hd.mk hn
 have hmq := Hd.mk hm
 clear hX hY hn hm
 by_cases hnm : n = m
 rotate_left
 ·have hI : ((n : Int) == (m : Int)) = false := by simp only [beq_eq_false_iff_ne, ne_eq]; omega
  have hI2 : ¬ (n : Int) = (m : Int) := by omega
  have hnm := Hd.mk hnm
  go_enter Tryz.func72, Tryz.ntmps72
  go_wp2_with fail
  go_ret
  exact ⟨⟨false, rfl, ⟨fun h => (by cases h), fun h => absurd (by rw [← hnq.out, ← hmq.out, h]) hnm.out⟩⟩, Kp.refl _ _⟩
 ·subst hnm
  go_enter Tryz.func72, Tryz.ntmps72
  go_wp2_with fail
  go_loopw [17] (fun v17 wr => ∃ k : Nat, v17 = .int .i64 k ∧ k ≤ n ∧ Hd (KZ w wr ∧ ∀ i, i < k → la[i]? = lb[i]?)) (fun v17 _ => n - (intOf v17).toNat)
  case atStart => exact ⟨0, rfl, Nat.zero_le _, ⟨Kp.refl _ _, fun i hi => absurd hi (Nat.not_lt_zero _)⟩⟩
  case round =>
   obtain ⟨k, rfl, hk, HK⟩ := hrel
   have hkb : (k : Int) + 1 ≤ 1000001 := by omega
   by_cases h1 : k < n
   ·have hltI : (k : Int) < (n : Int) := by omega
    obtain ⟨x, hx⟩ : ∃ x, la[k]? = some x := ⟨_, List.getElem?_eq_getElem (by rw [hnq.out]; exact h1)⟩
    obtain ⟨y, hy⟩ : ∃ y, lb[k]? = some y := ⟨_, List.getElem?_eq_getElem (by rw [hmq.out]; exact h1)⟩
    obtain ⟨g1, o1, rfl, At, ct, Ap, cp, r1, T1, P1⟩ := (HA.out.keep HK.out.1).row hx
    obtain ⟨g2, o2, rfl, Bt, dt, Bp, dp, r2, T2, P2⟩ := (HB.out.keep HK.out.1).row hy
    have hx := Hd.mk hx
    have hy := Hd.mk hy
    obtain ⟨wx, hwx⟩ : ∃ wx, wr.alloc (.cells #[.int .i64 x.d, .string ⟨x.k.toArray⟩, .slice At x.t.length ct, .int .i64 x.n, .slice Ap x.p.length cp] 24) = wx := ⟨_, rfl⟩
    obtain ⟨wy, hwy⟩ : ∃ wy, wx.alloc (.cells #[.int .i64 y.d, .string ⟨y.k.toArray⟩, .slice Bt y.t.length dt, .int .i64 y.n, .slice Bp y.p.length dp] 24) = wy := ⟨_, rfl⟩
    have hsz : wx.heap.size = wr.heap.size + 1 := by rw [← hwx, size_alloc']
    have kx : KZ wr wx := by rw [← hwx]; exact (Kp.refl _ wr).alloc _
    have ky : KZ wx wy := by rw [← hwy]; exact (Kp.refl _ wx).alloc _
    have kxy := kx.th ky
    have HC := Hd.mk (sameact73_at x y (bs_kpz T1 kxy) (bs_kpz P1 kxy) (bs_kpz T2 kxy) (bs_kpz P2 kxy))
    have r2 := rangez r2 kx
    have s1 : wy.rangeAt wr.heap.size 0 [.int .i64 x.d, .string ⟨x.k.toArray⟩, .slice At x.t.length ct, .int .i64 x.n, .slice Ap x.p.length cp] := rangez (by rw [← hwx]; exact row5 _ _ _ _ _ _) ky
    have s2 : wy.rangeAt (wr.heap.size + 1) 0 [.int .i64 y.d, .string ⟨y.k.toArray⟩, .slice Bt y.t.length dt, .int .i64 y.n, .slice Bp y.p.length dp] := by rw [← hsz, ← hwy]; exact row5 _ _ _ _ _ _
    rw [← hwy, ← hwx] at s1 s2
    rw [← hwx] at r2
    have r1 := Hd.mk r1
    have r2 := Hd.mk r2
    have s1 := Hd.mk s1
    have s2 := Hd.mk s2
    have hwq : Hd ((wr.alloc (.cells #[.int .i64 x.d, .string ⟨x.k.toArray⟩, .slice At x.t.length ct, .int .i64 x.n, .slice Ap x.p.length cp] 24)).alloc (.cells #[.int .i64 y.d, .string ⟨y.k.toArray⟩, .slice Bt y.t.length dt, .int .i64 y.n, .slice Bp y.p.length dp] 24) = wy) := ⟨by rw [hwx, hwy]⟩
    have kk := Hd.mk (HK.out.1.th kxy)
    clear T1 P1 T2 P2 kx ky kxy hwx hwy hsz
    have hxy : Hd (∀ b : Bool, (b = true ↔ x = y) → (b = true → la[k]? = lb[k]?) ∧ (b = false → la ≠ lb)) := ⟨fun b hb => ⟨fun h => by rw [hx.out, hy.out, hb.1 h], fun h h2 => by
     subst h2
     have h3 := hb.2 (by have := hx.out.symm.trans hy.out; injection this)
     rw [h] at h3
     cases h3⟩⟩
    clear hx hy
    obtain ⟨d1, k1, t1, n1, p1⟩ := x
    obtain ⟨d2, k2, t2, n2, p2⟩ := y
    simp only at r1 r2 s1 s2 hwq HC
    go_wp2_with (first | (with_reducible refine wl_load_mid rfl 24 (.tmp 20) rfl g1 (o1 + k * 5) rfl [.int .i64 d1, .string ⟨k1.toArray⟩, .slice At t1.length ct, .int .i64 n1, .slice Ap p1.length cp] r1.out Tryz.underlying24 rfl (by kernel_rfl) ?_) | (with_reducible refine wl_load_mid rfl 24 (.tmp 24) rfl g2 (o2 + k * 5) rfl [.int .i64 d2, .string ⟨k2.toArray⟩, .slice Bt t2.length dt, .int .i64 n2, .slice Bp p2.length dp] r2.out Tryz.underlying24 rfl (by kernel_rfl) ?_) | (with_reducible refine wl_load_mid rfl 24 (.tmp 8) rfl wr.heap.size 0 rfl [.int .i64 d1, .string ⟨k1.toArray⟩, .slice At t1.length ct, .int .i64 n1, .slice Ap p1.length cp] s1.out Tryz.underlying24 rfl (by kernel_rfl) ?_) | (with_reducible refine wl_load_mid rfl 24 (.tmp 9) rfl (wr.heap.size + 1) 0 rfl [.int .i64 d2, .string ⟨k2.toArray⟩, .slice Bt t2.length dt, .int .i64 n2, .slice Bp p2.length dp] s2.out Tryz.underlying24 rfl (by kernel_rfl) ?_))
    rw [hwq.out]
    refine HC.out.mono ?_
    rintro e w3 ⟨⟨b, rfl, hb⟩, k3⟩
    have hb := Hd.mk (hxy.out b hb)
    have K3 := Hd.mk (kk.out.th k3)
    clear k3 r1 r2 s1 s2 hwq kk HC hxy
    cases b
    ·go_wp2_with fail
     go_ret
     exact ⟨⟨false, rfl, ⟨fun h => (by cases h), fun h => absurd h (hb.out.2 (by first | trivial | rfl))⟩⟩, K3.out⟩
    ·go_wp2_with fail
     exact ⟨⟨k + 1, by go_num, by omega, ⟨K3.out, fun i hi => by
      by_cases e : i = k
      ·subst e
       exact hb.out.1 (by first | trivial | rfl)
      ·exact HK.out.2 i (by omega)⟩⟩, by simp [intOf]; omega⟩
   ·have hltI : ¬ (k : Int) < (n : Int) := by omega
    go_wp2_with fail
    go_ret
    exact ⟨⟨true, rfl, ⟨fun _ => list_ext (by rw [hnq.out, hmq.out]) (fun i hi => HK.out.2 i (by have := hnq.out; omega)), fun _ => rfl⟩⟩, HK.out.1⟩
end Go.Proofs.YtkcechpaeilaeaaGreatDoor
namespace Go.Proofs.YtkcechpaeilaeaaGreatDoor
open Go.RowKit
set_option maxRecDepth 100000
theorem rangey {w w' : World} {b o : Nat} {cs : List Value} (h : w.rangeAt b o cs) (hk : KZ w w') : w'.rangeAt b o cs := fun j v hv => hk.see (h j v hv) id
set_option maxHeartbeats 4000000 in
theorem rwsame_at {w : World} {A1 S1 A2 S2 : Option Addr} {ca1 cs1 ca2 cs2 : Nat} (f1 f2 : List Fo) (s1 s2 : List (List UInt8)) (c1 c2 : Int) (hl : f1.length ≤ 1000000) (hl2 : s1.length ≤ 1000000)
  (hF1 : Fr w (.slice A1 f1.length ca1) f1) (hF2 : Fr w (.slice A2 f2.length ca2) f2) (hS1 : Wos w (.slice S1 s1.length cs1) s1) (hS2 : Wos w (.slice S2 s2.length cs2) s2) :
  Calls Tryz.prog 74 #[.agg #[.slice A1 f1.length ca1, .slice S1 s1.length cs1, .int .i64 c1], .agg #[.slice A2 f2.length ca2, .slice S2 s2.length cs2, .int .i64 c2]] w fun e w' => BoR (f1 = f2 ∧ s1 = s2 ∧ c1 = c2) w w' e := by
 obtain ⟨n1, hn1⟩ : ∃ n, f1.length = n := ⟨_, rfl⟩
 obtain ⟨n2, hn2⟩ : ∃ n, f2.length = n := ⟨_, rfl⟩
 obtain ⟨m1, hm1⟩ : ∃ n, s1.length = n := ⟨_, rfl⟩
 obtain ⟨m2, hm2⟩ : ∃ n, s2.length = n := ⟨_, rfl⟩
 rw [hn1] at hl
 rw [hm1] at hl2
 rw [hn1, hn2, hm1, hm2]
 obtain ⟨w1, hw1⟩ : ∃ w1, w.alloc (.cells #[.slice A1 n1 ca1, .slice S1 m1 cs1, .int .i64 c1] 50) = w1 := ⟨_, rfl⟩
 have hz1 : w1.heap.size = w.heap.size + 1 := by rw [← hw1, size_alloc']
 obtain ⟨w2, hw2⟩ : ∃ w2, w1.alloc (.cells #[.slice A2 n2 ca2, .slice S2 m2 cs2, .int .i64 c2] 50) = w2 := ⟨_, rfl⟩
 have k02 : Hd (KZ w w2) := ⟨by rw [← hw2, ← hw1]; exact ((Kp.refl _ w).alloc _).alloc _⟩
 have hbx0 : ∀ w', KZ w2 w' → (w'.cell? ⟨w.heap.size, 0, none⟩ = some (.slice A1 n1 ca1) ∧ w'.cell? ⟨w.heap.size, 1, none⟩ = some (.slice S1 m1 cs1) ∧ w'.cell? ⟨w.heap.size, 2, none⟩ = some (.int .i64 c1)) ∧ w'.cell? ⟨w.heap.size + 1, 0, none⟩ = some (.slice A2 n2 ca2) ∧ w'.cell? ⟨w.heap.size + 1, 1, none⟩ = some (.slice S2 m2 cs2) ∧ w'.cell? ⟨w.heap.size + 1, 2, none⟩ = some (.int .i64 c2) := fun w' hk => by
  have h2 : KZ w1 w' := ((by rw [← hw2]; exact (Kp.refl _ w1).alloc _ : KZ w1 w2)).th hk
  rw [← hw1] at h2
  refine ⟨box3 _ _ _ _ _ _ h2, ?_⟩
  rw [← hz1]
  rw [← hw2] at hk
  exact box3 _ _ _ _ _ _ hk
 have HF1 := Hd.mk (hF1.keep k02.out)
 have HF2 := Hd.mk (hF2.keep k02.out)
 have HS1 := Hd.mk (hS1.keep k02.out)
 have HS2 := Hd.mk (hS2.keep k02.out)
 rw [hn1] at HF1
 rw [hn2] at HF2
 rw [hm1] at HS1
 rw [hm2] at HS2
 have hwq : Hd ((w.alloc (.cells #[.slice A1 n1 ca1, .slice S1 m1 cs1, .int .i64 c1] 50)).alloc (.cells #[.slice A2 n2 ca2, .slice S2 m2 cs2, .int .i64 c2] 50) = w2) := ⟨by rw [hw1, hw2]⟩
 replace hn1 := Hd.mk hn1
 replace hn2 := Hd.mk hn2
 replace hm1 := Hd.mk hm1
 replace hm2 := Hd.mk hm2
 clear hw1 hw2 hz1 hF1 hF2 hS1 hS2
 obtain ⟨B2, hB2⟩ : ∃ B, Hd (w.heap.size + 1 = B) := ⟨_, ⟨rfl⟩⟩
 obtain ⟨B1, hB1⟩ : ∃ B, Hd (w.heap.size = B) := ⟨_, ⟨rfl⟩⟩
 rw [hB2.out, hB1.out] at hbx0
 obtain ⟨⟨d0, d1, d2⟩, e0, e1, e2⟩ := hbx0 w2 (Kp.refl _ _)
 have hbx := Hd.mk hbx0
 clear hbx0
 by_cases hc : c1 = c2
 rotate_left
 ·have q0 : Hd (decide (c1 ≠ c2) = true) := ⟨decide_eq_true hc⟩
  replace hc := Hd.mk hc
  go_enter Tryz.func74, Tryz.ntmps74
  go_wp2_with (first | (rewrite [hwq.out, hB2.out, hB1.out]) | (first | (simp only [Bool.false_eq_true, if_false]) | ((with_reducible refine wl_run rfl (ex_neq _ 3 3 (.tmp 8) (.tmp 10) rfl .i64 (c1) (c2) rfl rfl true q0.out) ?_))))
  go_ret
  exact ⟨⟨false, rfl, ⟨fun h => (by cases h), fun h => absurd h.2.2 hc.out⟩⟩, k02.out⟩
 have q0 : Hd (decide (c1 ≠ c2) = false) := ⟨decide_eq_false (fun h => h hc)⟩
 replace hc := Hd.mk hc
 by_cases hn : n1 = n2
 rotate_left
 ·have q1 : Hd (decide ((n1 : Int) ≠ (n2 : Int)) = true) := ⟨decide_eq_true (by omega)⟩
  replace hn := Hd.mk hn
  go_enter Tryz.func74, Tryz.ntmps74
  go_wp2_with (first | (rewrite [hwq.out, hB2.out, hB1.out]) | (first | (simp only [Bool.false_eq_true, if_false]) | ((with_reducible refine wl_run rfl (ex_neq _ 3 3 (.tmp 8) (.tmp 10) rfl .i64 (c1) (c2) rfl rfl false q0.out) ?_)) | ((with_reducible refine wl_runG ?hw (ex_neq _ 3 3 (.tmp 15) (.tmp 18) rfl .i64 ((n1 : Int)) ((n2 : Int)) rfl rfl true q1.out) ?_); (case hw => rfl))))
  go_ret
  exact ⟨⟨false, rfl, ⟨fun h => (by cases h), fun h => absurd (by rw [← hn1.out, ← hn2.out, h.1]) hn.out⟩⟩, k02.out⟩
 have q1 : Hd (decide ((n1 : Int) ≠ (n2 : Int)) = false) := ⟨decide_eq_false (fun h => h (by omega))⟩
 by_cases hm : m1 = m2
 rotate_left
 ·have q2 : Hd (decide ((m1 : Int) ≠ (m2 : Int)) = true) := ⟨decide_eq_true (by omega)⟩
  replace hm := Hd.mk hm
  replace hn := Hd.mk hn
  go_enter Tryz.func74, Tryz.ntmps74
  go_wp2_with (first | (rewrite [hwq.out, hB2.out, hB1.out]) | (first | (simp only [Bool.false_eq_true, if_false]) | ((with_reducible refine wl_run rfl (ex_neq _ 3 3 (.tmp 8) (.tmp 10) rfl .i64 (c1) (c2) rfl rfl false q0.out) ?_)) | ((with_reducible refine wl_runG ?hw (ex_neq _ 3 3 (.tmp 15) (.tmp 18) rfl .i64 ((n1 : Int)) ((n2 : Int)) rfl rfl false q1.out) ?_); (case hw => rfl)) | ((with_reducible refine wl_runG ?hw (ex_neq _ 3 3 (.tmp 24) (.tmp 27) rfl .i64 ((m1 : Int)) ((m2 : Int)) rfl rfl true q2.out) ?_); (case hw => rfl))))
  go_ret
  exact ⟨⟨false, rfl, ⟨fun h => (by cases h), fun h => absurd (by rw [← hm1.out, ← hm2.out, h.2.1]) hm.out⟩⟩, k02.out⟩
 have q2 : Hd (decide ((m1 : Int) ≠ (m2 : Int)) = false) := ⟨decide_eq_false (fun h => h (by omega))⟩
 subst hn
 subst hm
 go_enter Tryz.func74, Tryz.ntmps74
 go_wp2_with (first | (rewrite [hwq.out, hB2.out, hB1.out]) | (first | (simp only [Bool.false_eq_true, if_false]) | ((with_reducible refine wl_run rfl (ex_neq _ 3 3 (.tmp 8) (.tmp 10) rfl .i64 (c1) (c2) rfl rfl false q0.out) ?_)) | ((with_reducible refine wl_runG ?hw (ex_neq _ 3 3 (.tmp 15) (.tmp 18) rfl .i64 ((n1 : Int)) ((n2 : Int)) rfl rfl false q1.out) ?_); (case hw => rfl)) | ((with_reducible refine wl_runG ?hw (ex_neq _ 3 3 (.tmp 24) (.tmp 27) rfl .i64 ((m1 : Int)) ((m2 : Int)) rfl rfl false q2.out) ?_); (case hw => rfl))))
 clear d0 d1 d2 e0 e1 e2
 go_loopw [5] (fun v5 wr => ∃ k : Nat, v5 = .int .i64 k ∧ k ≤ n1 ∧ Hd (KZ w2 wr ∧ ∀ i, i < k → f1[i]? = f2[i]?)) (fun v5 _ => n1 - (intOf v5).toNat)
 case atStart => exact ⟨0, rfl, Nat.zero_le _, ⟨Kp.refl _ _, fun i hi => absurd hi (Nat.not_lt_zero _)⟩⟩
 case round =>
  obtain ⟨k, rfl, hk, HK⟩ := hrel
  obtain ⟨⟨d0, d1, d2⟩, e0, e1, e2⟩ := hbx.out wr HK.out.1
  have hkb : (k : Int) + 1 ≤ 1000001 := by omega
  by_cases h1 : k < n1
  ·have hltI : (k : Int) < (n1 : Int) := by omega
   obtain ⟨x, hx⟩ : ∃ x, f1[k]? = some x := ⟨_, List.getElem?_eq_getElem (by rw [hn1.out]; exact h1)⟩
   obtain ⟨y, hy⟩ : ∃ y, f2[k]? = some y := ⟨_, List.getElem?_eq_getElem (by rw [hn2.out]; exact h1)⟩
   obtain ⟨b1, o1, rfl, r1⟩ := (HF1.out.keep HK.out.1).row hx
   obtain ⟨b2, o2, rfl, r2⟩ := (HF2.out.keep HK.out.1).row hy
   replace hx := Hd.mk hx
   replace hy := Hd.mk hy
   obtain ⟨f1', t1', m1'⟩ := x
   obtain ⟨f2', t2', m2'⟩ := y
   simp only at r1 r2
   replace r1 := Hd.mk r1
   replace r2 := Hd.mk r2
   have hS : Hd ((fun W : World => KZ wr W) wr.drew) := ⟨(Kp.refl _ _).drew⟩
   obtain ⟨q, hq⟩ : ∃ q, Hd ((f1' == f2' && (t1' == t2' && m1' == m2')) = !q) := ⟨!(f1' == f2' && (t1' == t2' && m1' == m2')), ⟨by simp⟩⟩
   cases q
   ·go_wp2_with fail
    clear d0 d1 d2 e0 e1 e2
    refine rn_begin (fun W : World => KZ wr W) (List.range 11) (by kernel_rfl) ?_
    refine rnA 0 37 (.pointer (some ⟨B1, 0, none⟩)) (erF 50 0 _ rfl B1 0 0 0 0 Tryz.underlying50 rfl) hS.out ?_
    refine rnA 1 38 (.slice (some ⟨b1, o1, none⟩) n1 ca1) (fun W hW => ex_load W 47 _ _ rfl ⟨B1, 0, none⟩ U47 rfl rfl ((hbx.out W (HK.out.1.th hW)).1.1)) hS.out ?_
    simp only [Act.put, uA, uB, uC]
    refine rnA 2 39 (.int .i64 ((k : Nat) : Int)) (rnM rfl rfl) hS.out ?_
    refine rnA 3 40 (.pointer (some ⟨b1, o1 + k * 3, none⟩)) (erI 47 100 _ _ rfl 3 k U47 b1 o1 _ _ (o1 + k * 3)) hS.out ?_
    simp only [Act.put, uA, uB, uC]
    refine rnA 4 41 (.agg ([.int .i32 f1', .int .i32 t1', .int .i64 m1'] : List Value).toArray) (fun W hW => ex_load_mid W 100 _ rfl b1 (o1 + k * 3) rfl _ (rangey r1.out hW) Tryz.underlying100 rfl (by kernel_rfl)) hS.out ?_
    refine rnA 5 42 (.pointer (some ⟨B2, 0, none⟩)) (erF 50 0 _ rfl B2 0 0 0 0 Tryz.underlying50 rfl) hS.out ?_
    simp only [Act.put, uA, uB, uC]
    refine rnA 6 43 (.slice (some ⟨b2, o2, none⟩) n1 ca2) (fun W hW => ex_load W 47 _ _ rfl ⟨B2, 0, none⟩ U47 rfl rfl ((hbx.out W (HK.out.1.th hW)).2.1)) hS.out ?_
    refine rnA 7 44 (.int .i64 ((k : Nat) : Int)) (rnM rfl rfl) hS.out ?_
    simp only [Act.put, uA, uB, uC]
    refine rnA 8 45 (.pointer (some ⟨b2, o2 + k * 3, none⟩)) (erI 47 100 _ _ rfl 3 k U47 b2 o2 _ _ (o2 + k * 3)) hS.out ?_
    refine rnA 9 46 (.agg ([.int .i32 f2', .int .i32 t2', .int .i64 m2'] : List Value).toArray) (fun W hW => ex_load_mid W 100 _ rfl b2 (o2 + k * 3) rfl _ (rangey r2.out hW) Tryz.underlying100 rfl (by kernel_rfl)) hS.out ?_
    simp only [Act.put, uA, uB, uC]
    refine rnA 10 47 (.bool false) (fun W hW => ex_neqFo W _ _ rfl f1' t1' m1' f2' t2' m2' rfl rfl false hq.out) hS.out ?_
    simp only [Act.put, uA, uB, uC]
    refine rn_done (by kernel_rfl) ?_ _
    clear hS
    go_wp2_with fail
    exact ⟨⟨k + 1, by go_num, by omega, ⟨HK.out.1.drew, fun i hi => by
     by_cases e : i = k
     ·subst e
      have := hq.out
      simp only [Bool.not_false, Bool.and_eq_true, beq_iff_eq] at this
      obtain ⟨h1, h2, h3⟩ := this
      rw [hx.out, hy.out, h1, h2, h3]
     ·exact HK.out.2 i (by omega)⟩⟩, by simp [intOf]; omega⟩
   ·go_wp2_with fail
    clear d0 d1 d2 e0 e1 e2
    refine rn_begin (fun W : World => KZ wr W) (List.range 11) (by kernel_rfl) ?_
    refine rnA 0 37 (.pointer (some ⟨B1, 0, none⟩)) (erF 50 0 _ rfl B1 0 0 0 0 Tryz.underlying50 rfl) hS.out ?_
    refine rnA 1 38 (.slice (some ⟨b1, o1, none⟩) n1 ca1) (fun W hW => ex_load W 47 _ _ rfl ⟨B1, 0, none⟩ U47 rfl rfl ((hbx.out W (HK.out.1.th hW)).1.1)) hS.out ?_
    simp only [Act.put, uA, uB, uC]
    refine rnA 2 39 (.int .i64 ((k : Nat) : Int)) (rnM rfl rfl) hS.out ?_
    refine rnA 3 40 (.pointer (some ⟨b1, o1 + k * 3, none⟩)) (erI 47 100 _ _ rfl 3 k U47 b1 o1 _ _ (o1 + k * 3)) hS.out ?_
    simp only [Act.put, uA, uB, uC]
    refine rnA 4 41 (.agg ([.int .i32 f1', .int .i32 t1', .int .i64 m1'] : List Value).toArray) (fun W hW => ex_load_mid W 100 _ rfl b1 (o1 + k * 3) rfl _ (rangey r1.out hW) Tryz.underlying100 rfl (by kernel_rfl)) hS.out ?_
    refine rnA 5 42 (.pointer (some ⟨B2, 0, none⟩)) (erF 50 0 _ rfl B2 0 0 0 0 Tryz.underlying50 rfl) hS.out ?_
    simp only [Act.put, uA, uB, uC]
    refine rnA 6 43 (.slice (some ⟨b2, o2, none⟩) n1 ca2) (fun W hW => ex_load W 47 _ _ rfl ⟨B2, 0, none⟩ U47 rfl rfl ((hbx.out W (HK.out.1.th hW)).2.1)) hS.out ?_
    refine rnA 7 44 (.int .i64 ((k : Nat) : Int)) (rnM rfl rfl) hS.out ?_
    simp only [Act.put, uA, uB, uC]
    refine rnA 8 45 (.pointer (some ⟨b2, o2 + k * 3, none⟩)) (erI 47 100 _ _ rfl 3 k U47 b2 o2 _ _ (o2 + k * 3)) hS.out ?_
    refine rnA 9 46 (.agg ([.int .i32 f2', .int .i32 t2', .int .i64 m2'] : List Value).toArray) (fun W hW => ex_load_mid W 100 _ rfl b2 (o2 + k * 3) rfl _ (rangey r2.out hW) Tryz.underlying100 rfl (by kernel_rfl)) hS.out ?_
    simp only [Act.put, uA, uB, uC]
    refine rnA 10 47 (.bool true) (fun W hW => ex_neqFo W _ _ rfl f1' t1' m1' f2' t2' m2' rfl rfl true hq.out) hS.out ?_
    simp only [Act.put, uA, uB, uC]
    refine rn_done (by kernel_rfl) ?_ _
    clear hS
    go_wp2_with fail
    go_ret
    exact ⟨⟨false, rfl, ⟨fun h => (by cases h), fun h => (by
     have h5 := h.1
     subst h5
     have := hx.out.symm.trans hy.out
     injection this with this
     injection this with h1 h2 h3
     have := hq.out
     subst h1; subst h2; subst h3
     simp at this)⟩⟩, k02.out.th HK.out.1.drew⟩
  ·have hltI : ¬ (k : Int) < (n1 : Int) := by omega
   have hff : Hd (f1 = f2) := ⟨list_ext (by rw [hn1.out, hn2.out]) (fun i hi => HK.out.2 i (by have := hn1.out; omega))⟩
   have KT := Hd.mk HK.out.1
   obtain ⟨W0, hW0⟩ : ∃ W, Hd (wr = W) := ⟨_, ⟨rfl⟩⟩
   rw [hW0.out] at KT
   clear HK
   go_wp2_with fail
   clear d0 d1 d2 e0 e1 e2
   go_loopw [6] (fun v6 wr => ∃ k : Nat, v6 = .int .i64 k ∧ k ≤ m1 ∧ Hd (KZ w2 wr ∧ ∀ i, i < k → s1[i]? = s2[i]?)) (fun v6 _ => m1 - (intOf v6).toNat)
   case atStart => exact ⟨0, rfl, Nat.zero_le _, ⟨by rw [hW0.out]; exact KT.out, fun i hi => absurd hi (Nat.not_lt_zero _)⟩⟩
   case round =>
    obtain ⟨k, rfl, hk, HK⟩ := hrel
    obtain ⟨⟨d0, d1, d2⟩, e0, e1, e2⟩ := hbx.out wr HK.out.1
    have hkb : (k : Int) + 1 ≤ 1000001 := by omega
    by_cases h1 : k < m1
    ·have hltI : (k : Int) < (m1 : Int) := by omega
     obtain ⟨x, hx⟩ : ∃ x, s1[k]? = some x := ⟨_, List.getElem?_eq_getElem (by rw [hm1.out]; exact h1)⟩
     obtain ⟨y, hy⟩ : ∃ y, s2[k]? = some y := ⟨_, List.getElem?_eq_getElem (by rw [hm2.out]; exact h1)⟩
     obtain ⟨b1, o1, rfl, r1⟩ := (HS1.out.keep HK.out.1).cell hx
     obtain ⟨b2, o2, rfl, r2⟩ := (HS2.out.keep HK.out.1).cell hy
     replace hx := Hd.mk hx
     replace hy := Hd.mk hy
     replace r1 := Hd.mk r1
     replace r2 := Hd.mk r2
     have hS : Hd ((fun W : World => KZ wr W) wr.drew) := ⟨(Kp.refl _ _).drew⟩
     obtain ⟨q, hq⟩ : ∃ q, Hd ((x != y) = q) := ⟨_, ⟨rfl⟩⟩
     cases q
     ·go_wp2_with fail
      clear d0 d1 d2 e0 e1 e2
      refine rn_begin (fun W : World => KZ wr W) (List.range 11) (by kernel_rfl) ?_
      refine rnA 0 55 (.pointer (some ⟨B1, 1, none⟩)) (erF 50 1 _ rfl B1 0 0 1 1 Tryz.underlying50 rfl) hS.out ?_
      refine rnA 1 56 (.slice (some ⟨b1, o1, none⟩) m1 cs1) (fun W hW => ex_load W 48 _ _ rfl ⟨B1, 1, none⟩ U48 rfl rfl ((hbx.out W (HK.out.1.th hW)).1.2.1)) hS.out ?_
      simp only [Act.put, uA, uB, uC]
      refine rnA 2 57 (.int .i64 ((k : Nat) : Int)) (rnM rfl rfl) hS.out ?_
      refine rnA 3 58 (.pointer (some ⟨b1, o1 + k, none⟩)) (erI 48 9 _ _ rfl 1 k U48 b1 o1 _ _ (o1 + k)) hS.out ?_
      simp only [Act.put, uA, uB, uC]
      refine rnA 4 59 (.string ⟨(x).toArray⟩) (fun W hW => ex_load W 9 _ _ rfl ⟨b1, o1 + k, none⟩ U9 rfl rfl (hW.see r1.out id)) hS.out ?_
      refine rnA 5 60 (.pointer (some ⟨B2, 1, none⟩)) (erF 50 1 _ rfl B2 0 0 1 1 Tryz.underlying50 rfl) hS.out ?_
      simp only [Act.put, uA, uB, uC]
      refine rnA 6 61 (.slice (some ⟨b2, o2, none⟩) m1 cs2) (fun W hW => ex_load W 48 _ _ rfl ⟨B2, 1, none⟩ U48 rfl rfl ((hbx.out W (HK.out.1.th hW)).2.2.1)) hS.out ?_
      refine rnA 7 62 (.int .i64 ((k : Nat) : Int)) (rnM rfl rfl) hS.out ?_
      simp only [Act.put, uA, uB, uC]
      refine rnA 8 63 (.pointer (some ⟨b2, o2 + k, none⟩)) (erI 48 9 _ _ rfl 1 k U48 b2 o2 _ _ (o2 + k)) hS.out ?_
      refine rnA 9 64 (.string ⟨(y).toArray⟩) (fun W hW => ex_load W 9 _ _ rfl ⟨b2, o2 + k, none⟩ U9 rfl rfl (hW.see r2.out id)) hS.out ?_
      simp only [Act.put, uA, uB, uC]
      refine rnA 10 65 (.bool false) (fun W hW => ex_sneq W 9 9 _ _ rfl x y false hq.out rfl rfl) hS.out ?_
      simp only [Act.put, uA, uB, uC]
      refine rn_done (by kernel_rfl) ?_ _
      clear hS
      go_wp2_with fail
      exact ⟨⟨k + 1, by go_num, by omega, ⟨HK.out.1.drew, fun i hi => by
       by_cases e : i = k
       ·subst e
        have h2 := hq.out
        rw [hx.out, hy.out]
        simp only [bne_eq_false_iff_eq] at h2
        rw [h2]
       ·exact HK.out.2 i (by omega)⟩⟩, by simp [intOf]; omega⟩
     ·go_wp2_with fail
      clear d0 d1 d2 e0 e1 e2
      refine rn_begin (fun W : World => KZ wr W) (List.range 11) (by kernel_rfl) ?_
      refine rnA 0 55 (.pointer (some ⟨B1, 1, none⟩)) (erF 50 1 _ rfl B1 0 0 1 1 Tryz.underlying50 rfl) hS.out ?_
      refine rnA 1 56 (.slice (some ⟨b1, o1, none⟩) m1 cs1) (fun W hW => ex_load W 48 _ _ rfl ⟨B1, 1, none⟩ U48 rfl rfl ((hbx.out W (HK.out.1.th hW)).1.2.1)) hS.out ?_
      simp only [Act.put, uA, uB, uC]
      refine rnA 2 57 (.int .i64 ((k : Nat) : Int)) (rnM rfl rfl) hS.out ?_
      refine rnA 3 58 (.pointer (some ⟨b1, o1 + k, none⟩)) (erI 48 9 _ _ rfl 1 k U48 b1 o1 _ _ (o1 + k)) hS.out ?_
      simp only [Act.put, uA, uB, uC]
      refine rnA 4 59 (.string ⟨(x).toArray⟩) (fun W hW => ex_load W 9 _ _ rfl ⟨b1, o1 + k, none⟩ U9 rfl rfl (hW.see r1.out id)) hS.out ?_
      refine rnA 5 60 (.pointer (some ⟨B2, 1, none⟩)) (erF 50 1 _ rfl B2 0 0 1 1 Tryz.underlying50 rfl) hS.out ?_
      simp only [Act.put, uA, uB, uC]
      refine rnA 6 61 (.slice (some ⟨b2, o2, none⟩) m1 cs2) (fun W hW => ex_load W 48 _ _ rfl ⟨B2, 1, none⟩ U48 rfl rfl ((hbx.out W (HK.out.1.th hW)).2.2.1)) hS.out ?_
      refine rnA 7 62 (.int .i64 ((k : Nat) : Int)) (rnM rfl rfl) hS.out ?_
      simp only [Act.put, uA, uB, uC]
      refine rnA 8 63 (.pointer (some ⟨b2, o2 + k, none⟩)) (erI 48 9 _ _ rfl 1 k U48 b2 o2 _ _ (o2 + k)) hS.out ?_
      refine rnA 9 64 (.string ⟨(y).toArray⟩) (fun W hW => ex_load W 9 _ _ rfl ⟨b2, o2 + k, none⟩ U9 rfl rfl (hW.see r2.out id)) hS.out ?_
      simp only [Act.put, uA, uB, uC]
      refine rnA 10 65 (.bool true) (fun W hW => ex_sneq W 9 9 _ _ rfl x y true hq.out rfl rfl) hS.out ?_
      simp only [Act.put, uA, uB, uC]
      refine rn_done (by kernel_rfl) ?_ _
      clear hS
      go_wp2_with fail
      go_ret
      exact ⟨⟨false, rfl, ⟨fun h => (by cases h), fun h => (by
       have h5 := h.2.1
       subst h5
       have := hx.out.symm.trans hy.out
       injection this with this
       have h2 := hq.out
       rw [this] at h2
       simp at h2)⟩⟩, k02.out.th HK.out.1.drew⟩
    ·have hltI : ¬ (k : Int) < (m1 : Int) := by omega
     go_wp2_with fail
     go_ret
     exact ⟨⟨true, rfl, ⟨fun _ => ⟨hff.out, list_ext (by rw [hm1.out, hm2.out]) (fun i hi => HK.out.2 i (by have := hm1.out; omega)), hc.out⟩, fun _ => rfl⟩⟩, k02.out.th HK.out.1⟩
end Go.Proofs.YtkcechpaeilaeaaGreatDoor
namespace Go.Proofs.YtkcechpaeilaeaaGreatDoor
open Go.RowKit
set_option maxRecDepth 100000
set_option maxHeartbeats 8000000 in
theorem scsame_at {w : World} {F1 S1 A1 F2 S2 A2 : Option Addr} {cF1 cS1 cA1 cF2 cS2 cA2 : Nat} (x y : Sc) (hl1 : x.fl.length ≤ 1000000) (hl2 : x.ss.length ≤ 1000000) (hl3 : x.ac.length ≤ 1000000) (hX : ScR w x F1 cF1 S1 cS1 A1 cA1) (hY : ScR w y F2 cF2 S2 cS2 A2 cA2) :
  Calls Tryz.prog 28 #[.agg #[.int .i64 x.pages, .int .i64 x.cache, .slice F1 x.fl.length cF1, .slice S1 x.ss.length cS1, .int .i64 x.cap, .slice A1 x.ac.length cA1], .agg #[.int .i64 y.pages, .int .i64 y.cache, .slice F2 y.fl.length cF2, .slice S2 y.ss.length cS2, .int .i64 y.cap, .slice A2 y.ac.length cA2]] w fun e w' => BoR (x = y) w w' e := by
 obtain ⟨p1, h1, fl1, ss1, c1, ac1⟩ := x
 obtain ⟨p2, h2, fl2, ss2, c2, ac2⟩ := y
 obtain ⟨X1, X2, X3⟩ := hX
 obtain ⟨Y1, Y2, Y3⟩ := hY
 simp only at hl1 hl2 hl3 X1 X2 X3 Y1 Y2 Y3 ⊢
 have heq0 : ∀ (q : Bool), (q = true ↔ (p1 = p2 ∧ h1 = h2 ∧ (fl1 = fl2 ∧ ss1 = ss2 ∧ c1 = c2) ∧ ac1 = ac2)) → (q = true ↔ (⟨p1, h1, fl1, ss1, c1, ac1⟩ : Sc) = ⟨p2, h2, fl2, ss2, c2, ac2⟩) := fun q hq => hq.trans ⟨fun ⟨e1, e2, ⟨e3, e4, e5⟩, e6⟩ => by subst e1; subst e2; subst e3; subst e4; subst e5; subst e6; rfl, fun h => by injection h with e1 e2 e3 e4 e5 e6; exact ⟨e1, e2, ⟨e3, e4, e5⟩, e6⟩⟩
 obtain ⟨PP, hPP⟩ : ∃ P : Prop, P = ((⟨p1, h1, fl1, ss1, c1, ac1⟩ : Sc) = ⟨p2, h2, fl2, ss2, c2, ac2⟩) := ⟨_, rfl⟩
 rw [← hPP] at heq0 ⊢
 have heq := Hd.mk heq0
 clear heq0
 replace hPP : Hd (PP → (p1 = p2 ∧ h1 = h2 ∧ (fl1 = fl2 ∧ ss1 = ss2 ∧ c1 = c2) ∧ ac1 = ac2)) := ⟨fun h => by rw [hPP] at h; injection h with e1 e2 e3 e4 e5 e6; exact ⟨e1, e2, ⟨e3, e4, e5⟩, e6⟩⟩
 have hW := Hd.mk (fun u (hk : KZ w u) => wsame_at (w := u) fl1 fl2 ss1 ss2 c1 c2 hl1 hl2 (X1.keep hk) (Y1.keep hk) (X2.keep hk) (Y2.keep hk))
 have hV := Hd.mk (fun u (hk : KZ w u) => eqacts_at ac1 ac2 (w := u) hl3 (X3.keep hk) (Y3.keep hk))
 obtain ⟨f1, hf1⟩ : ∃ n, fl1.length = n := ⟨_, rfl⟩
 obtain ⟨f2, hf2⟩ : ∃ n, fl2.length = n := ⟨_, rfl⟩
 obtain ⟨s1, hs1⟩ : ∃ n, ss1.length = n := ⟨_, rfl⟩
 obtain ⟨s2, hs2⟩ : ∃ n, ss2.length = n := ⟨_, rfl⟩
 obtain ⟨a1, ha1⟩ : ∃ n, ac1.length = n := ⟨_, rfl⟩
 obtain ⟨a2, ha2⟩ : ∃ n, ac2.length = n := ⟨_, rfl⟩
 rw [hf1, hf2, hs1, hs2] at hW
 rw [ha1, ha2] at hV
 clear hl3
 rw [hf1, hf2, hs1, hs2, ha1, ha2]
 replace ha1 := Hd.mk ha1
 replace ha2 := Hd.mk ha2
 clear hf1 hf2 hs1 hs2 hl1 hl2 X1 X2 X3 Y1 Y2 Y3
 obtain ⟨w1, hw1⟩ : ∃ w1, w.alloc (.cells #[.int .i64 p1, .int .i64 h1, .slice F1 f1 cF1, .slice S1 s1 cS1, .int .i64 c1, .slice A1 a1 cA1] 53) = w1 := ⟨_, rfl⟩
 have hz1 : w1.heap.size = w.heap.size + 1 := by rw [← hw1, size_alloc']
 obtain ⟨w2, hw2⟩ : ∃ w2, w1.alloc (.cells #[.int .i64 p2, .int .i64 h2, .slice F2 f2 cF2, .slice S2 s2 cS2, .int .i64 c2, .slice A2 a2 cA2] 53) = w2 := ⟨_, rfl⟩
 have k02 : Hd (KZ w w2) := ⟨by rw [← hw2, ← hw1]; exact ((Kp.refl _ w).alloc _).alloc _⟩
 obtain ⟨B2, hB2⟩ : ∃ B, Hd (w.heap.size + 1 = B) := ⟨_, ⟨rfl⟩⟩
 obtain ⟨B1, hB1⟩ : ∃ B, Hd (w.heap.size = B) := ⟨_, ⟨rfl⟩⟩
 have hbx : Hd (∀ w', KZ w2 w' → ((w'.cell? ⟨B1, 0, none⟩ = some (.int .i64 p1) ∧ w'.cell? ⟨B1, 1, none⟩ = some (.int .i64 h1) ∧ w'.cell? ⟨B1, 2, none⟩ = some (.slice F1 f1 cF1) ∧ w'.cell? ⟨B1, 3, none⟩ = some (.slice S1 s1 cS1) ∧ w'.cell? ⟨B1, 4, none⟩ = some (.int .i64 c1) ∧ w'.cell? ⟨B1, 5, none⟩ = some (.slice A1 a1 cA1)) ∧ w'.rangeAt B1 0 [.int .i64 p1, .int .i64 h1, .slice F1 f1 cF1, .slice S1 s1 cS1, .int .i64 c1, .slice A1 a1 cA1] ∧ w'.rangeAt B1 2 [.slice F1 f1 cF1, .slice S1 s1 cS1, .int .i64 c1]) ∧
   ((w'.cell? ⟨B2, 0, none⟩ = some (.int .i64 p2) ∧ w'.cell? ⟨B2, 1, none⟩ = some (.int .i64 h2) ∧ w'.cell? ⟨B2, 2, none⟩ = some (.slice F2 f2 cF2) ∧ w'.cell? ⟨B2, 3, none⟩ = some (.slice S2 s2 cS2) ∧ w'.cell? ⟨B2, 4, none⟩ = some (.int .i64 c2) ∧ w'.cell? ⟨B2, 5, none⟩ = some (.slice A2 a2 cA2)) ∧ w'.rangeAt B2 0 [.int .i64 p2, .int .i64 h2, .slice F2 f2 cF2, .slice S2 s2 cS2, .int .i64 c2, .slice A2 a2 cA2] ∧ w'.rangeAt B2 2 [.slice F2 f2 cF2, .slice S2 s2 cS2, .int .i64 c2])) := ⟨fun w' hk => by
  have h2 : KZ w1 w' := ((by rw [← hw2]; exact (Kp.refl _ w1).alloc _ : KZ w1 w2)).th hk
  rw [← hw1] at h2
  rw [← hB2.out, ← hB1.out]
  refine ⟨box6 _ _ _ _ _ _ _ _ _ h2, ?_⟩
  rw [← hz1]
  rw [← hw2] at hk
  exact box6 _ _ _ _ _ _ _ _ _ hk⟩
 have hwq : Hd ((w.alloc (.cells #[.int .i64 p1, .int .i64 h1, .slice F1 f1 cF1, .slice S1 s1 cS1, .int .i64 c1, .slice A1 a1 cA1] 53)).alloc (.cells #[.int .i64 p2, .int .i64 h2, .slice F2 f2 cF2, .slice S2 s2 cS2, .int .i64 c2, .slice A2 a2 cA2] 53) = w2) := ⟨by rw [hw1, hw2]⟩
 clear hw1 hw2 hz1
 obtain ⟨⟨⟨d0, d1, d2, d3, d4, d5⟩, _, r1⟩, ⟨e0, e1, e2, e3, e4, e5⟩, _, r2⟩ := hbx.out w2 (Kp.refl _ _)
 replace r1 := Hd.mk r1
 replace r2 := Hd.mk r2
 have hw := Hd.mk (hW.out w2 k02.out)
 by_cases hp : p1 = p2
 rotate_left
 ·have q0 : Hd (decide (p1 = p2) = false) := ⟨decide_eq_false hp⟩
  replace hp := Hd.mk hp
  go_enter Tryz.func28, Tryz.ntmps28
  go_wp2_with (first | (rewrite [hwq.out, hB2.out, hB1.out]) | ((with_reducible refine wl_run rfl (ex_eql _ 3 3 (.tmp 6) (.tmp 8) rfl .i64 p1 p2 rfl rfl false q0.out) ?_)))
  go_ret
  exact ⟨⟨false, rfl, heq.out false ⟨fun h => (by cases h), fun h => absurd h.1 hp.out⟩⟩, k02.out⟩
 have q0 : Hd (decide (p1 = p2) = true) := ⟨decide_eq_true hp⟩
 replace hp := Hd.mk hp
 by_cases hh : h1 = h2
 rotate_left
 ·have q1 : Hd (decide (h1 = h2) = false) := ⟨decide_eq_false hh⟩
  replace hh := Hd.mk hh
  go_enter Tryz.func28, Tryz.ntmps28
  go_wp2_with (first | (rewrite [hwq.out, hB2.out, hB1.out]) | ((with_reducible refine wl_run rfl (ex_eql _ 3 3 (.tmp 6) (.tmp 8) rfl .i64 p1 p2 rfl rfl true q0.out) ?_)) | ((with_reducible refine wl_runG ?hw (ex_eql _ 3 3 (.tmp 12) (.tmp 14) rfl .i64 h1 h2 rfl rfl false q1.out) ?_); (case hw => rfl)))
  go_ret
  exact ⟨⟨false, rfl, heq.out false ⟨fun h => (by cases h), fun h => absurd h.2.1 hh.out⟩⟩, k02.out⟩
 have q1 : Hd (decide (h1 = h2) = true) := ⟨decide_eq_true hh⟩
 replace hh := Hd.mk hh
 go_enter Tryz.func28, Tryz.ntmps28
 go_wp2_with (first | (rewrite [hwq.out, hB2.out, hB1.out]) | ((with_reducible refine wl_run rfl (ex_eql _ 3 3 (.tmp 6) (.tmp 8) rfl .i64 p1 p2 rfl rfl true q0.out) ?_)) | ((with_reducible refine wl_runG ?hw (ex_eql _ 3 3 (.tmp 12) (.tmp 14) rfl .i64 h1 h2 rfl rfl true q1.out) ?_); (case hw => rfl)) | ((with_reducible refine wl_runG ?hw (ex_load_mid _ 50 (.tmp 18) rfl B1 2 rfl [.slice F1 f1 cF1, .slice S1 s1 cS1, .int .i64 c1] r1.out Tryz.underlying50 rfl (by kernel_rfl)) ?_); (case hw => rfl)) | ((with_reducible refine wl_runG ?hw (ex_load_mid _ 50 (.tmp 20) rfl B2 2 rfl [.slice F2 f2 cF2, .slice S2 s2 cS2, .int .i64 c2] r2.out Tryz.underlying50 rfl (by kernel_rfl)) ?_); (case hw => rfl)))
 refine hw.out.mono ?_
 rintro e w3 ⟨⟨b, rfl, hb⟩, k3⟩
 replace hb := Hd.mk hb
 have K3 := Hd.mk (k02.out.th k3)
 clear d0 d1 d2 d3 d4 d5 e0 e1 e2 e3 e4 e5 hw
 obtain ⟨⟨⟨_, _, _, _, _, d5⟩, _, _⟩, ⟨_, _, _, _, _, e5⟩, _, _⟩ := hbx.out w3 k3
 have hv := Hd.mk (hV.out w3 K3.out)
 clear k3
 cases b
 ·replace hb : Hd (¬ (fl1 = fl2 ∧ ss1 = ss2 ∧ c1 = c2)) := ⟨fun h => (by have := hb.out.2 h; cases this)⟩
  go_wp2_with (simp only [Bool.false_eq_true, if_false])
  go_ret
  exact ⟨⟨false, rfl, heq.out false ⟨fun h => (by cases h), fun h => absurd h.2.2.1 hb.out⟩⟩, K3.out⟩
 ·replace hb : Hd ((fl1 = fl2 ∧ ss1 = ss2 ∧ c1 = c2)) := ⟨hb.out.1 (by trivial)⟩
  go_wp2_with (simp only [Bool.false_eq_true, if_false])
  refine hv.out.mono ?_
  rintro e w4 ⟨⟨b, rfl, hb2⟩, k4⟩
  have K4 := Hd.mk (K3.out.th k4)
  clear d5 e5 hv k4
  cases b
  ·replace hb2 : Hd (¬ (ac1 = ac2)) := ⟨fun h => (by have := hb2.2 h; cases this)⟩
   go_wp2_with (simp only [Bool.false_eq_true, if_false])
   go_ret
   exact ⟨⟨false, rfl, heq.out false ⟨fun h => (by cases h), fun h => absurd h.2.2.2 hb2.out⟩⟩, K4.out⟩
  ·replace hb2 : Hd (ac1 = ac2) := ⟨hb2.1 (by trivial)⟩
   go_wp2_with fail
   go_ret
   exact ⟨⟨true, rfl, heq.out true ⟨fun _ => ⟨hp.out, hh.out, hb.out, hb2.out⟩, fun _ => rfl⟩⟩, K4.out⟩
set_option maxHeartbeats 8000000 in
theorem rscsame_at {w : World} {F1 S1 A1 F2 S2 A2 : Option Addr} {cF1 cS1 cA1 cF2 cS2 cA2 : Nat} (x y : Sc) (hl1 : x.fl.length ≤ 1000000) (hl2 : x.ss.length ≤ 1000000) (hl3 : x.ac.length ≤ 1000000) (hX : ScR w x F1 cF1 S1 cS1 A1 cA1) (hY : ScR w y F2 cF2 S2 cS2 A2 cA2) :
  Calls Tryz.prog 29 #[.agg #[.int .i64 x.pages, .int .i64 x.cache, .slice F1 x.fl.length cF1, .slice S1 x.ss.length cS1, .int .i64 x.cap, .slice A1 x.ac.length cA1], .agg #[.int .i64 y.pages, .int .i64 y.cache, .slice F2 y.fl.length cF2, .slice S2 y.ss.length cS2, .int .i64 y.cap, .slice A2 y.ac.length cA2]] w fun e w' => BoR (x = y) w w' e := by
 obtain ⟨p1, h1, fl1, ss1, c1, ac1⟩ := x
 obtain ⟨p2, h2, fl2, ss2, c2, ac2⟩ := y
 obtain ⟨X1, X2, X3⟩ := hX
 obtain ⟨Y1, Y2, Y3⟩ := hY
 simp only at hl1 hl2 hl3 X1 X2 X3 Y1 Y2 Y3 ⊢
 have heq0 : ∀ (q : Bool), (q = true ↔ (p1 = p2 ∧ h1 = h2 ∧ (fl1 = fl2 ∧ ss1 = ss2 ∧ c1 = c2) ∧ ac1 = ac2)) → (q = true ↔ (⟨p1, h1, fl1, ss1, c1, ac1⟩ : Sc) = ⟨p2, h2, fl2, ss2, c2, ac2⟩) := fun q hq => hq.trans ⟨fun ⟨e1, e2, ⟨e3, e4, e5⟩, e6⟩ => by subst e1; subst e2; subst e3; subst e4; subst e5; subst e6; rfl, fun h => by injection h with e1 e2 e3 e4 e5 e6; exact ⟨e1, e2, ⟨e3, e4, e5⟩, e6⟩⟩
 obtain ⟨PP, hPP⟩ : ∃ P : Prop, P = ((⟨p1, h1, fl1, ss1, c1, ac1⟩ : Sc) = ⟨p2, h2, fl2, ss2, c2, ac2⟩) := ⟨_, rfl⟩
 rw [← hPP] at heq0 ⊢
 have heq := Hd.mk heq0
 clear heq0
 replace hPP : Hd (PP → (p1 = p2 ∧ h1 = h2 ∧ (fl1 = fl2 ∧ ss1 = ss2 ∧ c1 = c2) ∧ ac1 = ac2)) := ⟨fun h => by rw [hPP] at h; injection h with e1 e2 e3 e4 e5 e6; exact ⟨e1, e2, ⟨e3, e4, e5⟩, e6⟩⟩
 have hW := Hd.mk (fun u (hk : KZ w u) => rwsame_at (w := u) fl1 fl2 ss1 ss2 c1 c2 hl1 hl2 (X1.keep hk) (Y1.keep hk) (X2.keep hk) (Y2.keep hk))
 have HA1 := Hd.mk X3
 have HA2 := Hd.mk Y3
 obtain ⟨f1, hf1⟩ : ∃ n, fl1.length = n := ⟨_, rfl⟩
 obtain ⟨f2, hf2⟩ : ∃ n, fl2.length = n := ⟨_, rfl⟩
 obtain ⟨s1, hs1⟩ : ∃ n, ss1.length = n := ⟨_, rfl⟩
 obtain ⟨s2, hs2⟩ : ∃ n, ss2.length = n := ⟨_, rfl⟩
 obtain ⟨a1, ha1⟩ : ∃ n, ac1.length = n := ⟨_, rfl⟩
 obtain ⟨a2, ha2⟩ : ∃ n, ac2.length = n := ⟨_, rfl⟩
 rw [hf1, hf2, hs1, hs2] at hW
 rw [ha1] at HA1 hl3
 rw [ha2] at HA2
 rw [hf1, hf2, hs1, hs2, ha1, ha2]
 replace ha1 := Hd.mk ha1
 replace ha2 := Hd.mk ha2
 clear hf1 hf2 hs1 hs2 hl1 hl2 X1 X2 X3 Y1 Y2 Y3
 obtain ⟨w1, hw1⟩ : ∃ w1, w.alloc (.cells #[.int .i64 p1, .int .i64 h1, .slice F1 f1 cF1, .slice S1 s1 cS1, .int .i64 c1, .slice A1 a1 cA1] 53) = w1 := ⟨_, rfl⟩
 have hz1 : w1.heap.size = w.heap.size + 1 := by rw [← hw1, size_alloc']
 obtain ⟨w2, hw2⟩ : ∃ w2, w1.alloc (.cells #[.int .i64 p2, .int .i64 h2, .slice F2 f2 cF2, .slice S2 s2 cS2, .int .i64 c2, .slice A2 a2 cA2] 53) = w2 := ⟨_, rfl⟩
 have k02 : Hd (KZ w w2) := ⟨by rw [← hw2, ← hw1]; exact ((Kp.refl _ w).alloc _).alloc _⟩
 obtain ⟨B2, hB2⟩ : ∃ B, Hd (w.heap.size + 1 = B) := ⟨_, ⟨rfl⟩⟩
 obtain ⟨B1, hB1⟩ : ∃ B, Hd (w.heap.size = B) := ⟨_, ⟨rfl⟩⟩
 have hbx : Hd (∀ w', KZ w2 w' → ((w'.cell? ⟨B1, 0, none⟩ = some (.int .i64 p1) ∧ w'.cell? ⟨B1, 1, none⟩ = some (.int .i64 h1) ∧ w'.cell? ⟨B1, 2, none⟩ = some (.slice F1 f1 cF1) ∧ w'.cell? ⟨B1, 3, none⟩ = some (.slice S1 s1 cS1) ∧ w'.cell? ⟨B1, 4, none⟩ = some (.int .i64 c1) ∧ w'.cell? ⟨B1, 5, none⟩ = some (.slice A1 a1 cA1)) ∧ w'.rangeAt B1 0 [.int .i64 p1, .int .i64 h1, .slice F1 f1 cF1, .slice S1 s1 cS1, .int .i64 c1, .slice A1 a1 cA1] ∧ w'.rangeAt B1 2 [.slice F1 f1 cF1, .slice S1 s1 cS1, .int .i64 c1]) ∧
   ((w'.cell? ⟨B2, 0, none⟩ = some (.int .i64 p2) ∧ w'.cell? ⟨B2, 1, none⟩ = some (.int .i64 h2) ∧ w'.cell? ⟨B2, 2, none⟩ = some (.slice F2 f2 cF2) ∧ w'.cell? ⟨B2, 3, none⟩ = some (.slice S2 s2 cS2) ∧ w'.cell? ⟨B2, 4, none⟩ = some (.int .i64 c2) ∧ w'.cell? ⟨B2, 5, none⟩ = some (.slice A2 a2 cA2)) ∧ w'.rangeAt B2 0 [.int .i64 p2, .int .i64 h2, .slice F2 f2 cF2, .slice S2 s2 cS2, .int .i64 c2, .slice A2 a2 cA2] ∧ w'.rangeAt B2 2 [.slice F2 f2 cF2, .slice S2 s2 cS2, .int .i64 c2])) := ⟨fun w' hk => by
  have h2 : KZ w1 w' := ((by rw [← hw2]; exact (Kp.refl _ w1).alloc _ : KZ w1 w2)).th hk
  rw [← hw1] at h2
  rw [← hB2.out, ← hB1.out]
  refine ⟨box6 _ _ _ _ _ _ _ _ _ h2, ?_⟩
  rw [← hz1]
  rw [← hw2] at hk
  exact box6 _ _ _ _ _ _ _ _ _ hk⟩
 have hwq : Hd ((w.alloc (.cells #[.int .i64 p1, .int .i64 h1, .slice F1 f1 cF1, .slice S1 s1 cS1, .int .i64 c1, .slice A1 a1 cA1] 53)).alloc (.cells #[.int .i64 p2, .int .i64 h2, .slice F2 f2 cF2, .slice S2 s2 cS2, .int .i64 c2, .slice A2 a2 cA2] 53) = w2) := ⟨by rw [hw1, hw2]⟩
 clear hw1 hw2 hz1
 obtain ⟨⟨⟨d0, d1, d2, d3, d4, d5⟩, _, r1⟩, ⟨e0, e1, e2, e3, e4, e5⟩, _, r2⟩ := hbx.out w2 (Kp.refl _ _)
 replace r1 := Hd.mk r1
 replace r2 := Hd.mk r2
 have hw := Hd.mk (hW.out w2 k02.out)
 by_cases hp : p1 = p2
 rotate_left
 ·have q0 : Hd (decide (p1 ≠ p2) = true) := ⟨decide_eq_true hp⟩
  replace hp := Hd.mk hp
  go_enter Tryz.func29, Tryz.ntmps29
  go_wp2_with (first | (rewrite [hwq.out, hB2.out, hB1.out]) | ((with_reducible refine wl_run rfl (ex_neq _ 3 3 (.tmp 7) (.tmp 9) rfl .i64 (p1) (p2) rfl rfl true q0.out) ?_)))
  go_ret
  exact ⟨⟨false, rfl, heq.out false ⟨fun h => (by cases h), fun h => absurd h.1 hp.out⟩⟩, k02.out⟩
 have q0 : Hd (decide (p1 ≠ p2) = false) := ⟨decide_eq_false (fun h => h hp)⟩
 replace hp := Hd.mk hp
 by_cases hh : h1 = h2
 rotate_left
 ·have q1 : Hd (decide (h1 ≠ h2) = true) := ⟨decide_eq_true hh⟩
  replace hh := Hd.mk hh
  go_enter Tryz.func29, Tryz.ntmps29
  go_wp2_with (first | (rewrite [hwq.out, hB2.out, hB1.out]) | ((with_reducible refine wl_run rfl (ex_neq _ 3 3 (.tmp 7) (.tmp 9) rfl .i64 (p1) (p2) rfl rfl false q0.out) ?_)) | ((with_reducible refine wl_runG ?hw (ex_neq _ 3 3 (.tmp 13) (.tmp 15) rfl .i64 (h1) (h2) rfl rfl true q1.out) ?_); (case hw => rfl)))
  go_ret
  exact ⟨⟨false, rfl, heq.out false ⟨fun h => (by cases h), fun h => absurd h.2.1 hh.out⟩⟩, k02.out⟩
 have q1 : Hd (decide (h1 ≠ h2) = false) := ⟨decide_eq_false (fun h => h hh)⟩
 replace hh := Hd.mk hh
 go_enter Tryz.func29, Tryz.ntmps29
 go_wp2_with (first | (rewrite [hwq.out, hB2.out, hB1.out]) | ((with_reducible refine wl_run rfl (ex_neq _ 3 3 (.tmp 7) (.tmp 9) rfl .i64 (p1) (p2) rfl rfl false q0.out) ?_)) | ((with_reducible refine wl_runG ?hw (ex_neq _ 3 3 (.tmp 13) (.tmp 15) rfl .i64 (h1) (h2) rfl rfl false q1.out) ?_); (case hw => rfl)) | ((with_reducible refine wl_runG ?hw (ex_load_mid _ 50 (.tmp 19) rfl B1 2 rfl [.slice F1 f1 cF1, .slice S1 s1 cS1, .int .i64 c1] r1.out Tryz.underlying50 rfl (by kernel_rfl)) ?_); (case hw => rfl)) | ((with_reducible refine wl_runG ?hw (ex_load_mid _ 50 (.tmp 21) rfl B2 2 rfl [.slice F2 f2 cF2, .slice S2 s2 cS2, .int .i64 c2] r2.out Tryz.underlying50 rfl (by kernel_rfl)) ?_); (case hw => rfl)))
 refine hw.out.mono ?_
 rintro e w3 ⟨⟨b, rfl, hb⟩, k3⟩
 replace hb := Hd.mk hb
 have K3 := Hd.mk (k02.out.th k3)
 have K23 := Hd.mk k3
 clear d0 d1 d2 d3 d4 d5 e0 e1 e2 e3 e4 e5 hw
 obtain ⟨⟨⟨_, _, _, _, _, d5⟩, _, _⟩, ⟨_, _, _, _, _, e5⟩, _, _⟩ := hbx.out w3 k3
 clear k3
 cases b
 ·replace hb : Hd (¬ (fl1 = fl2 ∧ ss1 = ss2 ∧ c1 = c2)) := ⟨fun h => (by have := hb.out.2 h; cases this)⟩
  go_wp2_with (simp only [Bool.false_eq_true, if_false])
  go_ret
  exact ⟨⟨false, rfl, heq.out false ⟨fun h => (by cases h), fun h => absurd h.2.2.1 hb.out⟩⟩, K3.out⟩
 replace hb : Hd ((fl1 = fl2 ∧ ss1 = ss2 ∧ c1 = c2)) := ⟨hb.out.1 (by trivial)⟩
 by_cases hn : a1 = a2
 rotate_left
 ·have q2 : Hd (decide ((a1 : Int) ≠ (a2 : Int)) = true) := ⟨decide_eq_true (by omega)⟩
  replace hn := Hd.mk hn
  go_wp2_with (first | (simp only [Bool.false_eq_true, if_false]) | ((with_reducible refine wl_runG ?hw (ex_neq _ 3 3 (.tmp 29) (.tmp 32) rfl .i64 ((a1 : Int)) ((a2 : Int)) rfl rfl true q2.out) ?_); (case hw => rfl)))
  go_ret
  exact ⟨⟨false, rfl, heq.out false ⟨fun h => (by cases h), fun h => absurd (by rw [← ha1.out, ← ha2.out, h.2.2.2]) hn.out⟩⟩, K3.out⟩
 have q2 : Hd (decide ((a1 : Int) ≠ (a2 : Int)) = false) := ⟨decide_eq_false (fun h => h (by omega))⟩
 subst hn
 go_wp2_with (first | (simp only [Bool.false_eq_true, if_false]) | ((with_reducible refine wl_runG ?hw (ex_neq _ 3 3 (.tmp 29) (.tmp 32) rfl .i64 ((a1 : Int)) ((a1 : Int)) rfl rfl false q2.out) ?_); (case hw => rfl)))
 clear d5 e5
 go_loopw [5] (fun v5 wr => ∃ k : Nat, v5 = .int .i64 k ∧ k ≤ a1 ∧ Hd (KZ w2 wr ∧ ∀ i, i < k → ac1[i]? = ac2[i]?)) (fun v5 _ => a1 - (intOf v5).toNat)
 case atStart => exact ⟨0, rfl, Nat.zero_le _, ⟨K23.out, fun i hi => absurd hi (Nat.not_lt_zero _)⟩⟩
 case round =>
  obtain ⟨k, rfl, hk, HK⟩ := hrel
  obtain ⟨⟨⟨_, _, _, _, _, d5⟩, _, _⟩, ⟨_, _, _, _, _, e5⟩, _, _⟩ := hbx.out wr HK.out.1
  have hkb : (k : Int) + 1 ≤ 1000001 := by omega
  by_cases h1' : k < a1
  ·have hltI : (k : Int) < (a1 : Int) := by omega
   obtain ⟨x, hx⟩ : ∃ x, ac1[k]? = some x := ⟨_, List.getElem?_eq_getElem (by rw [ha1.out]; exact h1')⟩
   obtain ⟨y, hy⟩ : ∃ y, ac2[k]? = some y := ⟨_, List.getElem?_eq_getElem (by rw [ha2.out]; exact h1')⟩
   have KW := Hd.mk (k02.out.th HK.out.1)
   obtain ⟨g1, o1, rfl, At, ct, Ap, cp, r3, T1, P1⟩ := (HA1.out.keep KW.out).row hx
   obtain ⟨g2, o2, rfl, Bt, dt, Bp, dp, r4, T2, P2⟩ := (HA2.out.keep KW.out).row hy
   have hxy : Hd (∀ b : Bool, (b = true ↔ x = y) → (b = true → ac1[k]? = ac2[k]?) ∧ (b = false → ac1 ≠ ac2)) := ⟨fun b hb => ⟨fun h => by rw [hx, hy, hb.1 h], fun h h2 => by
    subst h2
    have h3 := hb.2 (by have := hx.symm.trans hy; injection this)
    rw [h] at h3
    cases h3⟩⟩
   have HC := Hd.mk (fun u (hu : KZ wr u) => sameact13_at x y (bs_kpz T1 hu) (bs_kpz P1 hu) (bs_kpz T2 hu) (bs_kpz P2 hu))
   replace r3 := Hd.mk r3
   replace r4 := Hd.mk r4
   clear T1 P1 T2 P2 hx hy
   obtain ⟨x1, x2, x3, x4, x5⟩ := x
   obtain ⟨y1, y2, y3, y4, y5⟩ := y
   simp only at r3 r4 HC
   have hS : Hd ((fun W : World => KZ wr W) wr.drew) := ⟨(Kp.refl _ _).drew⟩
   go_wp2_with fail
   clear d5 e5
   refine rn_begin (fun W : World => KZ wr W) (List.range 12) (by kernel_rfl) ?_
   refine rnA 0 42 (.pointer (some ⟨B1, 5, none⟩)) (erF 53 3 _ rfl B1 0 0 5 5 Tryz.underlying53 rfl) hS.out ?_
   refine rnA 1 43 (.slice (some ⟨g1, o1, none⟩) a1 cA1) (fun W hW => ex_load W 51 _ _ rfl ⟨B1, 5, none⟩ U51 rfl rfl ((hbx.out W (HK.out.1.th hW)).1.1.2.2.2.2.2)) hS.out ?_
   simp only [Act.put, uA, uB, uC]
   refine rnA 2 44 (.int .i64 ((k : Nat) : Int)) (rnM rfl rfl) hS.out ?_
   refine rnA 3 45 (.pointer (some ⟨g1, o1 + k * 5, none⟩)) (erI 51 24 _ _ rfl 5 k U51 g1 o1 _ _ (o1 + k * 5)) hS.out ?_
   simp only [Act.put, uA, uB, uC]
   refine rnA 4 46 (.agg ([.int .i64 x1, .string ⟨x2.toArray⟩, .slice At x3.length ct, .int .i64 x4, .slice Ap x5.length cp] : List Value).toArray) (fun W hW => ex_load_mid W 24 _ rfl g1 (o1 + k * 5) rfl _ (rangez r3.out hW) Tryz.underlying24 rfl (by kernel_rfl)) hS.out ?_
   refine rnA 5 47 (.pointer (some ⟨B2, 5, none⟩)) (erF 53 3 _ rfl B2 0 0 5 5 Tryz.underlying53 rfl) hS.out ?_
   simp only [Act.put, uA, uB, uC]
   refine rnA 6 48 (.slice (some ⟨g2, o2, none⟩) a1 cA2) (fun W hW => ex_load W 51 _ _ rfl ⟨B2, 5, none⟩ U51 rfl rfl ((hbx.out W (HK.out.1.th hW)).2.1.2.2.2.2.2)) hS.out ?_
   refine rnA 7 49 (.int .i64 ((k : Nat) : Int)) (rnM rfl rfl) hS.out ?_
   simp only [Act.put, uA, uB, uC]
   refine rnA 8 50 (.pointer (some ⟨g2, o2 + k * 5, none⟩)) (erI 51 24 _ _ rfl 5 k U51 g2 o2 _ _ (o2 + k * 5)) hS.out ?_
   refine rnA 9 51 (.agg ([.int .i64 y1, .string ⟨y2.toArray⟩, .slice Bt y3.length dt, .int .i64 y4, .slice Bp y5.length dp] : List Value).toArray) (fun W hW => ex_load_mid W 24 _ rfl g2 (o2 + k * 5) rfl _ (rangez r4.out hW) Tryz.underlying24 rfl (by kernel_rfl)) hS.out ?_
   simp only [Act.put, uA, uB, uC]
   generalize wr.drew = u0 at *
   refine rn_one (i := 10) (dst := some 52) rfl (by kernel_rfl) rfl rfl (fun K hK => ?_)
   refine ow_call 13 _ _ rfl Tryz.func13 (by kernel_rfl) (by kernel_rfl) [.agg #[.int .i64 x1, .string ⟨x2.toArray⟩, .slice At x3.length ct, .int .i64 x4, .slice Ap x5.length cp], .agg #[.int .i64 y1, .string ⟨y2.toArray⟩, .slice Bt y3.length dt, .int .i64 y4, .slice Bp y5.length dp]] rfl (HC.out u0 hS.out) ?_
   rintro e u1 ⟨⟨b, rfl, hb2⟩, k5⟩
   have hS1 : Hd ((fun W : World => KZ wr W) u1) := ⟨hS.out.th k5⟩
   refine ⟨_, rfl, hK _ _ (fun _ => hS1.out) ?_⟩
   clear hK K hS k5
   have hS := hS1
   clear hS1
   replace hb2 := Hd.mk (hxy.out b hb2)
   clear hxy HC r3 r4
   simp only [Act.put, uA, uB, uC]
   cases b
   ·skip
    refine rnA 11 53 (.bool true) (fun W hW => ex_not W _ _ rfl false rfl) hS.out ?_
    simp only [Act.put, uA, uB, uC]
    refine rn_done (by kernel_rfl) ?_ _
    have KF := Hd.mk (KW.out.th hS.out)
    clear hS
    go_wp2_with fail
    go_ret
    exact ⟨⟨false, rfl, heq.out false ⟨fun h => (by cases h), fun h => absurd h.2.2.2 (hb2.out.2 (by first | trivial | rfl))⟩⟩, KF.out⟩
   ·skip
    refine rnA 11 53 (.bool false) (fun W hW => ex_not W _ _ rfl true rfl) hS.out ?_
    simp only [Act.put, uA, uB, uC]
    refine rn_done (by kernel_rfl) ?_ _
    have KF := Hd.mk (HK.out.1.th hS.out)
    clear hS
    go_wp2_with fail
    exact ⟨⟨k + 1, by go_num, by omega, ⟨KF.out, fun i hi => by
     by_cases e : i = k
     ·subst e
      exact hb2.out.1 (by first | trivial | rfl)
     ·exact HK.out.2 i (by omega)⟩⟩, by simp [intOf]; omega⟩
  ·have hltI : ¬ (k : Int) < (a1 : Int) := by omega
   go_wp2_with fail
   go_ret
   exact ⟨⟨true, rfl, heq.out true ⟨fun _ => ⟨hp.out, hh.out, hb.out, list_ext (by rw [ha1.out, ha2.out]) (fun i hi => HK.out.2 i (by have := ha1.out; omega))⟩, fun _ => rfl⟩⟩, k02.out.th HK.out.1⟩
end Go.Proofs.YtkcechpaeilaeaaGreatDoor
namespace Go.Proofs.YtkcechpaeilaeaaGreatDoor
open Go.RowKit
set_option maxRecDepth 100000
def SmR (p : Prop) (w w' : World) (e : Ending) : Prop := (∃ b, e = .returned (.bool b) ∧ (b = true → p)) ∧ KZ w w'
end Go.Proofs.YtkcechpaeilaeaaGreatDoor
