/- slices.Equal over two rows of what lines say: the same row twice is equal. -/
import Derived.Test.YtkcechpaeilaeaaGreatDoorG3
import Derived.Laws.StructEq
import Derived.ChangeKeysEq
namespace Go.Proofs.YtkcechpaeilaeaaGreatDoor
open Go.RowKit
set_option linter.unusedVariables false
set_option linter.unusedSimpArgs false
set_option maxRecDepth 20000
theorem scl_len (l : List (Nat × List UInt8)) : (scl l).length = l.length * 2 := by
  induction l with
  | nil => rfl
  | cons x l ih =>
    show ([_, _] ++ scl l).length = _
    rw [List.length_append, ih]
    simp only [List.length_cons, List.length_nil]
    omega
theorem scl_get : ∀ (l : List (Nat × List UInt8)) (k : Nat) (x : Nat × List UInt8), l[k]? = some x → (scl l)[k * 2]? = some (.int .i64 (x.1 : Int)) ∧ (scl l)[k * 2 + 1]? = some (.string ⟨x.2.toArray⟩)
  | y :: l, 0, x, h => by
    injection h with h
    subst h
    exact ⟨rfl, rfl⟩
  | y :: l, k + 1, x, h => by
    have ih := scl_get l k x h
    have e : scl (y :: l) = [.int .i64 (y.1 : Int), .string ⟨y.2.toArray⟩] ++ scl l := rfl
    rw [e, List.getElem?_append_right (by simp only [List.length_cons, List.length_nil]; omega), List.getElem?_append_right (by simp only [List.length_cons, List.length_nil]; omega)]
    have e1 : (k + 1) * 2 - [(.int .i64 (y.1 : Int) : Value), .string ⟨y.2.toArray⟩].length = k * 2 := by simp only [List.length_cons, List.length_nil]; omega
    have e2 : (k + 1) * 2 + 1 - [(.int .i64 (y.1 : Int) : Value), .string ⟨y.2.toArray⟩].length = k * 2 + 1 := by simp only [List.length_cons, List.length_nil]; omega
    rw [e1, e2]
    exact ih
/-- A row of what lines say, somewhere in memory. -/
def Rw (w : World) (v : Value) (l : List (Nat × List UInt8)) : Prop := ∃ A c, v = .slice A l.length c ∧ (l = [] ∨ ∃ g o, A = some ⟨g, o, none⟩ ∧ w.rangeAt g o (scl l))
theorem Rw.of_or {b : Nat} {w : World} {v : Value} {l : List (Nat × List UInt8)} (h : Or b 41 2 w v l.length (scl l)) : Rw w v l := by
  obtain ⟨A, c, rfl, _⟩ := h.slice
  refine ⟨A, c, rfl, ?_⟩
  by_cases h0 : 0 < l.length
  · obtain ⟨g, rfl, hr, _⟩ := h.at h0
    exact .inr ⟨g, 0, rfl, hr⟩
  · exact .inl (List.eq_nil_of_length_eq_zero (by omega))
theorem Rw.keep {w w' : World} {v : Value} {l : List (Nat × List UInt8)} (h : Rw w v l) (hk : Kp (fun _ => False) w w') : Rw w' v l := by
  obtain ⟨A, c, rfl, h⟩ := h
  refine ⟨A, c, rfl, ?_⟩
  rcases h with h | ⟨g, o, rfl, hr⟩
  · exact .inl h
  · by_cases h0 : l = []
    · exact .inl h0
    · refine .inr ⟨g, o, rfl, rangeAt_keep hr (hk.block g (rangeAt_lt hr (fun e => h0 ?_)) id)⟩
      have := congrArg List.length e
      rw [scl_len] at this
      have : l.length * 2 = 0 := this
      exact List.eq_nil_of_length_eq_zero (by omega)
/-- A row's beginning. -/
theorem Rw.take {w : World} {A : Option Addr} {n c : Nat} {l : List (Nat × List UInt8)} (h : Rw w (.slice A n c) l) (k : Nat) (hk : k ≤ l.length) : Rw w (.slice A k c) (l.take k) := by
  obtain ⟨A', c', e, h⟩ := h
  injection e with e1 e2 e3
  subst e1 e2 e3
  refine ⟨A, c, by rw [List.length_take, Nat.min_eq_left hk], ?_⟩
  rcases h with rfl | ⟨g, o, rfl, hr⟩
  · exact .inl (by simp)
  · refine .inr ⟨g, o, rfl, fun j v hj => hr j v ?_⟩
    have hj2 : j < (scl (l.take k)).length := (List.getElem?_eq_some_iff.1 hj).1
    rw [← List.take_append_drop k l]
    have : scl (l.take k ++ l.drop k) = scl (l.take k) ++ scl (l.drop k) := by unfold scl; rw [List.flatMap_append]
    rw [this, List.getElem?_append_left hj2]
    exact hj
theorem ex_neqSaid {o : Oper} {a : Act} (w : World) (x y : Operand) (ho : o.op = .binOp .neq 41 x y 41) (p : Int) (s : List UInt8) (hx : a.eval x = .agg ([.int .i64 p, .string ⟨s.toArray⟩] : List Value).toArray)
    (hy : a.eval y = .agg ([.int .i64 p, .string ⟨s.toArray⟩] : List Value).toArray) : (execOp a.eval o).run Tryz.prog w = .ok (.value (.bool false)) w := by
  have e : (Tryz.prog.fieldsOf 41).toList = [{ name := "N", type := 3, offset := 0, embedded := false, tag := "", pkgPath := "", byteOffset := 0 }, { name := "S", type := 9, offset := 1, embedded := false, tag := "", pkgPath := "", byteOffset := 8 }] := by kernel_rfl
  have h0 : (Op.eqFields 9999 ([.int .i64 p, .string ⟨s.toArray⟩] : List Value).toArray ([.int .i64 p, .string ⟨s.toArray⟩] : List Value).toArray (Tryz.prog.fieldsOf 41).toList).run Tryz.prog w = .ok true w := by
    rw [e]
    have p1 : (part 3 ([.int .i64 p, .string ⟨s.toArray⟩] : List Value).toArray 0).run Tryz.prog w = .ok (.int .i64 p) w := run_part_plain w (by kernel_rfl) rfl
    have p2 : (part 9 ([.int .i64 p, .string ⟨s.toArray⟩] : List Value).toArray 1).run Tryz.prog w = .ok (.string ⟨s.toArray⟩) w := run_part_plain w (by kernel_rfl) rfl
    simp only [Op.eqFields, Sem.run_bind, Sem.run_ite, p1, p2, Result.andThen_ok, run_equalIn_int w 9998 3 .i64 .i64 p p Tryz.underlying3, run_equalIn_string w 9998 9 _ _ Tryz.underlying9, beq_self_eq_true, Bool.not_true]
    simp
  unfold execOp
  simp only [ho, hx, hy, Sem.run_bind, run_eqGuard_agg w _ _ _ _ _ _ Tryz.eqGuardType41, Result.andThen_ok, run_neq_struct, run_equalIn_agg w 9999 41 _ _ (by kernel_rfl) Tryz.stoodInHeld41, h0]
  rfl
set_option maxHeartbeats 1000000 in
theorem eq_at {w : World} {va vb : Value} (l : List (Nat × List UInt8)) (hl : l.length ≤ 1000000000) (ha : Rw w va l) (hb : Rw w vb l) : Calls Tryz.prog 20 #[va, vb] w fun e w' => e = .returned (.bool true) ∧ Kp (fun _ => False) w w' := by
  obtain ⟨A, cA, rfl, hA⟩ := ha
  obtain ⟨B, cB, rfl, hB⟩ := hb
  have hA := Hd.mk hA
  have hB := Hd.mk hB
  obtain ⟨n, hn⟩ : ∃ n, l.length = n := ⟨_, rfl⟩
  rw [hn] at hl ⊢
  have hn := Hd.mk hn
  go_enter Tryz.func20, Tryz.ntmps20
  go_wp2_with fail
  go_loopw [13] (fun v13 wr => ∃ k : Nat, v13 = .int .i64 k ∧ k ≤ n ∧ Hd (Kp (fun _ => False) w wr)) (fun v13 _ => n - (intOf v13).toNat)
  case atStart => exact ⟨0, rfl, Nat.zero_le _, ⟨Kp.refl _ _⟩⟩
  case round =>
    obtain ⟨k, rfl, hk, HK⟩ := hrel
    have hkb : (k : Int) + 1 ≤ 1000000001 := by omega
    by_cases h1 : k < n
    · have hltI : (k : Int) < (n : Int) := by omega
      obtain ⟨x, hx⟩ : ∃ x, l[k]? = some x := ⟨_, List.getElem?_eq_getElem (by rw [hn.out]; exact h1)⟩
      have hg := scl_get l k x hx
      have hne : l ≠ [] := fun e => by subst e; simp at hx
      obtain ⟨b1, o1, rfl, r1⟩ := hA.out.resolve_left hne
      obtain ⟨b2, o2, rfl, r2⟩ := hB.out.resolve_left hne
      obtain ⟨p, s⟩ := x
      have sub : ∀ (b o : Nat), w.rangeAt b o (scl l) → wr.drew.rangeAt b (o + k * 2) [.int .i64 (p : Int), .string ⟨s.toArray⟩] := fun b o hr => by
        refine rangeAt_keep (w := w) (fun j v hj => ?_) (HK.out.block b (rangeAt_lt hr (fun e => by rw [e] at hg; simp at hg)) id)
        match j, hj with
        | 0, hj => injection hj with hj; subst hj; exact hr _ _ hg.1
        | 1, hj => injection hj with hj; subst hj; exact hr _ _ hg.2
      have hS : Hd ((fun W : World => W.rangeAt b1 (o1 + k * 2) [.int .i64 (p : Int), .string ⟨s.toArray⟩] ∧ W.rangeAt b2 (o2 + k * 2) [.int .i64 (p : Int), .string ⟨s.toArray⟩]) wr.drew) := ⟨sub _ _ r1, sub _ _ r2⟩
      clear sub hg r1 r2 hx hne
      go_wp2_with fail
      refine rn_begin (fun W : World => W.rangeAt b1 (o1 + k * 2) [.int .i64 (p : Int), .string ⟨s.toArray⟩] ∧ W.rangeAt b2 (o2 + k * 2) [.int .i64 (p : Int), .string ⟨s.toArray⟩]) (List.range 9) (by kernel_rfl) ?_
      refine rn_take (i := 0) (dst := some 16) (v := .slice (some ⟨b1, o1, none⟩) n cA) rfl (by kernel_rfl) (fun _ _ _ h => h) rfl rfl (fun W hW => ex_move W _ _ rfl rfl) hS.out ?_
      simp only [Act.put, List.setIfInBounds_toArray, List.set_cons_zero, List.set_cons_succ]
      refine rn_take (i := 1) (dst := some 17) (v := .int .i64 ((k : Nat) : Int)) rfl (by kernel_rfl) (fun _ _ _ h => h) rfl rfl (fun W hW => ex_move W _ _ rfl rfl) hS.out ?_
      simp only [Act.put, List.setIfInBounds_toArray, List.set_cons_zero, List.set_cons_succ]
      refine rn_take (i := 2) (dst := some 18) (v := .pointer (some ⟨b1, o1 + k * 2, none⟩)) rfl (by kernel_rfl) (fun _ _ _ h => h) rfl rfl (fun W hW => er_index W 35 41 _ _ rfl 2 k Tryz.underlying35 (by kernel_rfl) b1 o1 _ _ (o1 + k * 2) (by first | rfl | omega) rfl .i64 rfl (by omega)) hS.out ?_
      simp only [Act.put, List.setIfInBounds_toArray, List.set_cons_zero, List.set_cons_succ]
      refine rn_take (i := 3) (dst := some 19) (v := .agg ([.int .i64 (p : Int), .string ⟨s.toArray⟩] : List Value).toArray) rfl (by kernel_rfl) (fun _ _ _ h => h) rfl rfl (fun W hW => ex_load_mid W 41 _ rfl b1 (o1 + k * 2) rfl _ hW.1 Tryz.underlying41 rfl (by kernel_rfl)) hS.out ?_; simp only [Act.put, List.setIfInBounds_toArray, List.set_cons_zero, List.set_cons_succ]
      refine rn_take (i := 4) (dst := some 20) (v := .slice (some ⟨b2, o2, none⟩) n cB) rfl (by kernel_rfl) (fun _ _ _ h => h) rfl rfl (fun W hW => ex_move W _ _ rfl rfl) hS.out ?_
      simp only [Act.put, List.setIfInBounds_toArray, List.set_cons_zero, List.set_cons_succ]
      refine rn_take (i := 5) (dst := some 21) (v := .int .i64 ((k : Nat) : Int)) rfl (by kernel_rfl) (fun _ _ _ h => h) rfl rfl (fun W hW => ex_move W _ _ rfl rfl) hS.out ?_
      simp only [Act.put, List.setIfInBounds_toArray, List.set_cons_zero, List.set_cons_succ]
      refine rn_take (i := 6) (dst := some 22) (v := .pointer (some ⟨b2, o2 + k * 2, none⟩)) rfl (by kernel_rfl) (fun _ _ _ h => h) rfl rfl (fun W hW => er_index W 35 41 _ _ rfl 2 k Tryz.underlying35 (by kernel_rfl) b2 o2 _ _ (o2 + k * 2) (by first | rfl | omega) rfl .i64 rfl (by omega)) hS.out ?_
      simp only [Act.put, List.setIfInBounds_toArray, List.set_cons_zero, List.set_cons_succ]
      refine rn_take (i := 7) (dst := some 23) (v := .agg ([.int .i64 (p : Int), .string ⟨s.toArray⟩] : List Value).toArray) rfl (by kernel_rfl) (fun _ _ _ h => h) rfl rfl (fun W hW => ex_load_mid W 41 _ rfl b2 (o2 + k * 2) rfl _ hW.2 Tryz.underlying41 rfl (by kernel_rfl)) hS.out ?_; simp only [Act.put, List.setIfInBounds_toArray, List.set_cons_zero, List.set_cons_succ]
      refine rn_take (i := 8) (dst := some 24) (v := .bool false) rfl (by kernel_rfl) (fun _ _ _ h => h) rfl rfl (fun W hW => ex_neqSaid W _ _ rfl p s rfl rfl) hS.out ?_; simp only [Act.put, List.setIfInBounds_toArray, List.set_cons_zero, List.set_cons_succ]
      refine rn_done (by kernel_rfl) ?_ _
      clear hS
      go_wp2_with fail
      exact ⟨⟨k + 1, by go_num, by omega, ⟨HK.out.drew⟩⟩, by simp [intOf]; omega⟩
    · have hltI : ¬ (k : Int) < (n : Int) := by omega
      go_wp2_with fail
      go_ret
      exact ⟨rfl, HK.out⟩
end Go.Proofs.YtkcechpaeilaeaaGreatDoor
