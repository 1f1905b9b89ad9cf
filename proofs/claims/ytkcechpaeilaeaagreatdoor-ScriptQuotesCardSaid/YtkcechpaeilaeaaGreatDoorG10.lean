/- ScriptQuotes' walk. -/
import Derived.Test.YtkcechpaeilaeaaGreatDoorV5
import Derived.Test.YtkcechpaeilaeaaGreatDoorG7
import Derived.Test.YtkcechpaeilaeaaGreatDoorG8
import Derived.Test.YtkcechpaeilaeaaGreatDoorG9
import Derived.Test.YtkcechpaeilaeaaGreatDoorQ6
namespace Go.Proofs.YtkcechpaeilaeaaGreatDoor
open Go.RowKit
set_option linter.unusedVariables false
set_option linter.unusedSimpArgs false
set_option maxRecDepth 100000
theorem saidS_len (s : List UInt8) : (saidS s).length ≤ s.length + 1 := Nat.le_trans (saidFrom_length _ _) (lnGo_length _ _)
theorem uq_len (bl : Bool) : ∀ (n : Nat) (l r : List UInt8), l.length ≤ n → uq bl l = some r → r.length ≤ l.length
  | _, [], r, _, h => by
    rw [uq] at h
    cases h
    exact Nat.le_refl _
  | 0, c :: l, r, hn, _ => by simp at hn
  | n + 1, [c], r, hn, h => by
    rw [uq] at h
    · split at h
      · cases h; simp
      · cases h
    · intro a b c h; cases h
  | n + 1, [c, d], r, hn, h => by
    rw [uq] at h
    · split at h
      · cases hu : uq bl [d] with
        | none => rw [hu] at h; cases h
        | some q =>
          rw [hu] at h
          cases h
          have := uq_len bl n [d] q (by simpa using hn) hu
          simp only [List.length_cons, List.length_nil] at this ⊢
          omega
      · cases h
    · intro a b c h; cases h
  | n + 1, c :: d :: e :: l, r, hn, h => by
    simp only [List.length_cons] at hn
    rw [uq] at h
    split at h
    · cases hu : uq bl (d :: e :: l) with
      | none => rw [hu] at h; cases h
      | some q =>
        rw [hu] at h
        cases h
        have := uq_len bl n (d :: e :: l) q (by simp only [List.length_cons]; omega) hu
        simp only [List.length_cons] at this ⊢
        omega
    · split at h
      · cases hu : uq bl l with
        | none => rw [hu] at h; cases h
        | some q =>
          rw [hu] at h
          cases h
          have := uq_len bl n l q (by omega) hu
          simp only [List.length_cons] at this ⊢
          omega
      · cases h
theorem UqR.two {w w' : World} {r : Option (List UInt8)} {e : Ending} (h : UqR w w' r e) : ∃ v, e = .returned (.tuple #[v, .int .i64 (if r.isSome then 0 else 270)]) ∧ Bs w' v (ints (r.getD [])) ∧ Kp (fun _ => False) w w' := by
  obtain ⟨h1, h2⟩ := h
  cases r with
  | none => exact ⟨_, h1, (Ob.nil 0 w').bs, h2⟩
  | some b =>
    obtain ⟨v, rfl, hb⟩ := h1
    exact ⟨v, rfl, hb.bs, h2⟩
theorem ex_min1 {P : Program} {o : Oper} {a : Act} (w : World) (x y : Operand) (ts : Array TypeId) (ho : o.op = .call { callee := .builtin .min, args := #[x, y], argTypes := ts }) (n : Nat) (hx : a.eval x = .int .i64 1) (hy : a.eval y = .int .i64 (n : Int)) (k : Nat) (hk : min 1 n = k) :
    (execOp a.eval o).run P w = .ok (.value (.int .i64 (k : Int))) w := by
  have e : (if (n : Int) < 1 then (n : Int) else 1) = (k : Int) := by split <;> omega
  unfold execOp
  simp only [ho, resolve, invoke, builtin, Sem.run_bind, Sem.run_pure, Result.andThen_ok, List.map_toArray, List.map_cons, List.map_nil, hx, hy, run_min_int2, e]
theorem ex_cutTop {P : Program} {o : Oper} {a : Act} (w : World) (t : Nat) (x h : Operand) (ho : o.op = .slice t x none (some h) none) {e : TypeId} (ht : P.underlying t = some (.slice e)) (sz : Nat) (hs : (P.info? e).map (·.size) = some sz) (A : Option Addr) (len c n : Nat) (hx : a.eval x = .slice A len c) (hh : a.eval h = .int .i64 (n : Int)) (hn : n ≤ c) :
    (execOp a.eval o).run P w = .ok (.value (.slice A n c)) w := by
  unfold execOp
  have hsz := sizeOf_run (P := P) w hs
  have c1 : (0 : Int) ≤ (n : Int) ∧ (n : Int) ≤ (c : Int) := by omega
  have hA : A.map (fun x => x.add 0) = A := by
    cases A with
    | none => rfl
    | some p => simp [Addr.add]
  simp only [ho, hx, hh, Instr.sliceAt, Option.map_none, Option.map_some, Sem.run_bind, run_underlying ht, Result.andThen_ok, Instr.slice, Sem.run_pure, Instr.sliceBounds, Instr.sliceBound, asIntOf, c1, and_self, if_true, Int.toNat_natCast, hsz, Nat.zero_mul, hA, ite_self, Nat.sub_zero]
theorem take_min1 {α : Type} (l : List α) : l.take (min 1 l.length) = l.take 1 := by
  cases l with
  | nil => rfl
  | cons x r => simp
theorem said_twice (s : List UInt8) (hs : s.length ≤ 100000) (most : Nat) (hmost : most ≤ 1000000000) {w w1 : World} (hE : Ev w) (hw : w1 = w.alloc (.cells #[.string ⟨s.toArray⟩] 9)) :
    Calls Tryz.prog 21 #[.func (.func 63) #[] #[.pointer (some ⟨w.heap.size, 0, none⟩)], .int .i64 (most : Int)] w1 fun e w' => (∃ v, e = .returned v ∧ Rw w' v ((saidS s).take most)) ∧ Kp (fun _ => False) w w' := by
  have k1 : Kp (fun _ => False) w w1 := by rw [hw]; exact (Kp.refl _ w).alloc _
  refine (said_at s hs most hmost w.heap.size w1 (hE.keep k1).ml (by rw [hw]; exact _root_.Go.heap_alloc_new w _)).mono ?_
  rintro e w2 ⟨⟨v, rfl, ho⟩, hk⟩
  exact ⟨⟨v, rfl, Rw.of_or ho⟩, k1.andThen hk (fun i hi e => by omega)⟩
set_option maxHeartbeats 4000000 in
theorem scriptquotes_at (b s : List UInt8) (bl : Bool) {w : World} (hE0 : Ev w) (Ab : Option Addr) (cb : Nat) (hB0 : Bs w (.slice Ab b.length cb) (ints b)) :
    Calls Tryz.prog 4 #[.slice Ab b.length cb, .string ⟨s.toArray⟩, .bool bl] w fun e w' => e = .returned (.bool true) ∧ Kp (fun _ => False) w w' := by
  have hE := Hd.mk hE0
  have hB := Hd.mk hB0
  obtain ⟨g1, hg1⟩ : ∃ z, Hd (decide (5000 < (b.length : Int)) = z) := ⟨_, ⟨rfl⟩⟩
  obtain ⟨g2, hg2⟩ : ∃ z, Hd (decide (5000 < (s.length : Int)) = z) := ⟨_, ⟨rfl⟩⟩
  have hlv := Hd.mk (live_at hE0)
  clear hE0 hB0
  cases g1
  · cases g2
    · have hbl : Hd (b.length ≤ 5000) := ⟨by have := of_decide_eq_false hg1.out; omega⟩
      have hsl : Hd (s.length ≤ 5000) := ⟨by have := of_decide_eq_false hg2.out; omega⟩
      go_enter Tryz.func4, Tryz.ntmps4
      go_wp2_with fail
      refine hlv.out.mono ?_
      rintro e w1 ⟨rfl, k1⟩
      have K1 := Hd.mk k1
      clear k1 hlv
      go_wp2_with (first | ((with_reducible refine wl_runG ?hw (ex_gtr _ 3 3 (.tmp 16) (.const (.int .i64 5000)) rfl .i64 (b.length : Int) 5000 rfl rfl false hg1.out) ?_); (case hw => rfl); simp only [Act.put, List.setIfInBounds_toArray, List.set_cons_zero, List.set_cons_succ]) | ((with_reducible refine wl_runG ?hw (ex_gtr _ 3 3 (.tmp 21) (.const (.int .i64 5000)) rfl .i64 (s.length : Int) 5000 rfl rfl false hg2.out) ?_); (case hw => rfl); simp only [Act.put, List.setIfInBounds_toArray, List.set_cons_zero, List.set_cons_succ]))
      refine (unquote_at (w := w1) s bl (by have := hsl.out; omega)).mono ?_
      intro e w2 hu
      obtain ⟨v1, rfl, b2, k2⟩ := hu.two
      have K2 := Hd.mk (K1.out.andThen k2 (fun _ _ h => h))
      have B2 := Hd.mk b2
      obtain ⟨r, hr⟩ : ∃ r, Hd ((uq bl s).getD [] = r ∧ r.length ≤ 5000) := ⟨_, ⟨rfl, by
        cases hq : uq bl s with
        | none => simp
        | some q =>
          have := uq_len bl _ s q (Nat.le_refl _) hq
          have := hsl.out
          show q.length ≤ 5000
          omega⟩⟩
      obtain ⟨z, hz⟩ : ∃ z : Int, Hd ((if (uq bl s).isSome then (0 : Int) else 270) = z) := ⟨_, ⟨rfl⟩⟩
      rw [hr.out.1] at B2
      rw [hz.out]
      clear hu b2 k2 K1 hg1 hg2
      go_wp2_with fail
      refine (runquote_at (w := w2) s bl (by have := hsl.out; omega)).mono ?_
      intro e w3 hu
      obtain ⟨v2, rfl, b3, k3⟩ := hu.two
      have K3 := Hd.mk (K2.out.andThen k3 (fun _ _ h => h))
      have B3 := Hd.mk b3
      have B2' := Hd.mk (bs_kp B2.out k3)
      rw [hr.out.1] at B3
      rw [hz.out]
      clear hu b3 k3 K2 B2
      go_wp2_with fail
      refine (rlines_at s (by have := hsl.out; omega) w3).mono ?_
      rintro e w4 ⟨⟨v3, rfl, ho⟩, k4⟩
      obtain ⟨A3, c3, rfl, hc3⟩ := ho.slice
      have K4 := Hd.mk (K3.out.andThen k4 (fun _ _ h => h))
      have B4 := Hd.mk (bs_kp B2'.out k4)
      have B5 := Hd.mk (bs_kp B3.out k4)
      have R4 := Hd.mk (Rw.of_or ho)
      obtain ⟨n, hn⟩ : ∃ n, Hd ((saidS s).length = n ∧ n ≤ 5001 ∧ n ≤ c3) := ⟨_, ⟨rfl, by have := saidS_len s; have := hsl.out; omega, hc3⟩⟩
      rw [hn.out.1] at R4 ⊢
      clear ho k4 K3 B2' B3 hc3 hz
      go_wp2_with fail
      have hS : Hd ((fun W : World => True) w4.drew) := ⟨trivial⟩
      have B0 := Hd.mk (bs_kp hB.out (K4.out.andThen ((Kp.refl (fun _ => False) w4).drew) (fun _ _ h => h)))
      have K0 := Hd.mk (K4.out.drew)
      have E0 := Hd.mk (hE.out.keep K0.out)
      have B1 := Hd.mk (bs_kp B4.out ((Kp.refl (fun _ => False) w4).drew))
      have B2 := Hd.mk (bs_kp B5.out ((Kp.refl (fun _ => False) w4).drew))
      have R0 := Hd.mk (R4.out.keep ((Kp.refl (fun _ => False) w4).drew))
      clear hE K4 B4 B5 R4 hB
      refine rn_begin (fun W : World => True) (List.range 36) (by kernel_rfl) ?_
      generalize w4.drew = u0 at *
      refine rn_take (i := 0) (dst := some 39) (v := .slice Ab b.length cb) rfl (by kernel_rfl) (fun _ _ _ h => h) rfl rfl (fun W hW => ex_move W _ _ rfl rfl) hS.out ?_
      simp only [Act.put, List.setIfInBounds_toArray, List.set_cons_zero, List.set_cons_succ]
      refine rn_take (i := 1) (dst := some 40) (v := .bool bl) rfl (by kernel_rfl) (fun _ _ _ h => h) rfl rfl (fun W hW => ex_move W _ _ rfl rfl) hS.out ?_
      simp only [Act.put, List.setIfInBounds_toArray, List.set_cons_zero, List.set_cons_succ]
      refine rn_take (i := 3) (dst := some 42) (v := .slice Ab b.length cb) rfl (by kernel_rfl) (fun _ _ _ h => h) rfl rfl (fun W hW => ex_move W _ _ rfl rfl) hS.out ?_
      simp only [Act.put, List.setIfInBounds_toArray, List.set_cons_zero, List.set_cons_succ]
      refine rn_take (i := 4) (dst := some 43) (v := .bool bl) rfl (by kernel_rfl) (fun _ _ _ h => h) rfl rfl (fun W hW => ex_move W _ _ rfl rfl) hS.out ?_
      simp only [Act.put, List.setIfInBounds_toArray, List.set_cons_zero, List.set_cons_succ]
      refine rn_one (i := 2) (dst := some 41) rfl (by kernel_rfl) rfl rfl (fun K hK => ?_)
      refine ow_call 17 _ _ rfl Tryz.func17 (by kernel_rfl) (by kernel_rfl) [.slice Ab b.length cb, .bool bl] rfl (quote_at B0.out bl (by have := hbl.out; omega)) ?_
      rintro e u1 ⟨rfl, k1⟩
      have K1 := Hd.mk (K0.out.andThen k1 (fun _ _ h => h))
      have E1 := Hd.mk (E0.out.keep k1)
      have C0 := Hd.mk (bs_kp B0.out k1)
      have C1 := Hd.mk (bs_kp B1.out k1)
      have C2 := Hd.mk (bs_kp B2.out k1)
      have R1 := Hd.mk (R0.out.keep k1)
      refine ⟨_, rfl, hK _ _ (fun _ => trivial) ?_⟩
      clear hK K K0 E0 B0 B1 B2 R0 k1
      simp only [Act.put, List.setIfInBounds_toArray, List.set_cons_zero, List.set_cons_succ]
      refine rn_one (i := 5) (dst := some 44) rfl (by kernel_rfl) rfl rfl (fun K hK => ?_)
      refine ow_call 18 _ _ rfl Tryz.func18 (by kernel_rfl) (by kernel_rfl) [.slice Ab b.length cb, .bool bl] rfl (rquote_at C0.out bl (by have := hbl.out; omega)) ?_
      rintro e u2 ⟨rfl, k1⟩
      have K2 := Hd.mk (K1.out.andThen k1 (fun _ _ h => h))
      have E2 := Hd.mk (E1.out.keep k1)
      have B1 := Hd.mk (bs_kp C1.out k1)
      have B2 := Hd.mk (bs_kp C2.out k1)
      have R2 := Hd.mk (R1.out.keep k1)
      refine ⟨_, rfl, hK _ _ (fun _ => trivial) ?_⟩
      clear hK K K1 E1 C0 C1 C2 R1 k1
      simp only [Act.put, List.setIfInBounds_toArray, List.set_cons_zero, List.set_cons_succ]
      generalize quote b bl = q
      have hqq : Hd ((q == q) = true) := ⟨by simp⟩
      refine rn_take (i := 6) (dst := some 45) (v := .bool true) rfl (by kernel_rfl) (fun _ _ _ h => h) rfl rfl (fun W hW => ex_seql W 9 9 _ _ rfl q q true hqq.out rfl rfl) hS.out ?_
      simp only [Act.put, List.setIfInBounds_toArray, List.set_cons_zero, List.set_cons_succ]
      refine rn_take (i := 7) (dst := some 46) (v := .bool true) rfl (by kernel_rfl) (fun _ _ _ h => h) rfl rfl (fun W hW => ex_move W _ _ rfl rfl) hS.out ?_
      simp only [Act.put, List.setIfInBounds_toArray, List.set_cons_zero, List.set_cons_succ]
      refine rn_take (i := 8) (dst := some 47) (v := v1) rfl (by kernel_rfl) (fun _ _ _ h => h) rfl rfl (fun W hW => ex_move W _ _ rfl rfl) hS.out ?_
      simp only [Act.put, List.setIfInBounds_toArray, List.set_cons_zero, List.set_cons_succ]
      refine rn_take (i := 9) (dst := some 48) (v := v2) rfl (by kernel_rfl) (fun _ _ _ h => h) rfl rfl (fun W hW => ex_move W _ _ rfl rfl) hS.out ?_
      simp only [Act.put, List.setIfInBounds_toArray, List.set_cons_zero, List.set_cons_succ]
      refine rn_one (i := 10) (dst := some 49) rfl (by kernel_rfl) rfl rfl (fun K hK => ?_)
      refine ow_call 19 _ _ rfl Tryz.func19 (by kernel_rfl) (by kernel_rfl) [v1, v2] rfl (bsame_self B1.out B2.out (by have := hr.out.2; simp only [ints_length]; omega)) ?_
      rintro e u3 ⟨rfl, k1⟩
      have K3 := Hd.mk (K2.out.andThen k1 (fun _ _ h => h))
      have E3 := Hd.mk (E2.out.keep k1)
      have R3 := Hd.mk (R2.out.keep k1)
      refine ⟨_, rfl, hK _ _ (fun _ => trivial) ?_⟩
      clear hK K K2 E2 B1 B2 R2 k1 hr hqq
      simp only [Act.put, List.setIfInBounds_toArray, List.set_cons_zero, List.set_cons_succ]
      refine rn_take (i := 11) (dst := some 50) (v := .bool true) rfl (by kernel_rfl) (fun _ _ _ h => h) rfl rfl (fun W hW => ex_pick W _ _ _ rfl true _ rfl rfl) hS.out ?_
      simp only [Act.put, List.setIfInBounds_toArray, List.set_cons_zero, List.set_cons_succ]
      refine rn_take (i := 12) (dst := some 51) (v := .bool true) rfl (by kernel_rfl) (fun _ _ _ h => h) rfl rfl (fun W hW => ex_move W _ _ rfl rfl) hS.out ?_
      simp only [Act.put, List.setIfInBounds_toArray, List.set_cons_zero, List.set_cons_succ]
      refine rn_take (i := 13) (dst := some 52) (v := .int .i64 (z)) rfl (by kernel_rfl) (fun _ _ _ h => h) rfl rfl (fun W hW => ex_move W _ _ rfl rfl) hS.out ?_
      simp only [Act.put, List.setIfInBounds_toArray, List.set_cons_zero, List.set_cons_succ]
      refine rn_take (i := 14) (dst := some 53) (v := .int .i64 (z)) rfl (by kernel_rfl) (fun _ _ _ h => h) rfl rfl (fun W hW => ex_move W _ _ rfl rfl) hS.out ?_
      simp only [Act.put, List.setIfInBounds_toArray, List.set_cons_zero, List.set_cons_succ]
      refine rn_take (i := 15) (dst := some 54) (v := .bool true) rfl (by kernel_rfl) (fun _ _ _ h => h) rfl rfl (fun W hW => ex_eql W 26 _ _ _ rfl .i64 z z rfl rfl true (by simp)) hS.out ?_
      simp only [Act.put, List.setIfInBounds_toArray, List.set_cons_zero, List.set_cons_succ]
      refine rn_take (i := 16) (dst := some 55) (v := .bool true) rfl (by kernel_rfl) (fun _ _ _ h => h) rfl rfl (fun W hW => ex_pick W _ _ _ rfl true _ rfl rfl) hS.out ?_
      simp only [Act.put, List.setIfInBounds_toArray, List.set_cons_zero, List.set_cons_succ]
      refine rn_take (i := 17) (dst := some 56) (v := .bool true) rfl (by kernel_rfl) (fun _ _ _ h => h) rfl rfl (fun W hW => ex_move W _ _ rfl rfl) hS.out ?_
      simp only [Act.put, List.setIfInBounds_toArray, List.set_cons_zero, List.set_cons_succ]
      refine rn_take (i := 18) (dst := some 57) (v := .string ⟨(s).toArray⟩) rfl (by kernel_rfl) (fun _ _ _ h => h) rfl rfl (fun W hW => ex_move W _ _ rfl rfl) hS.out ?_
      simp only [Act.put, List.setIfInBounds_toArray, List.set_cons_zero, List.set_cons_succ]
      refine rn_take (i := 21) (dst := some 60) (v := .slice A3 n c3) rfl (by kernel_rfl) (fun _ _ _ h => h) rfl rfl (fun W hW => ex_move W _ _ rfl rfl) hS.out ?_
      simp only [Act.put, List.setIfInBounds_toArray, List.set_cons_zero, List.set_cons_succ]
      refine rn_one (i := 19) (dst := some 58) rfl (by kernel_rfl) rfl rfl (fun K hK => ?_)
      refine ow_call 22 _ _ rfl Tryz.func22 (by kernel_rfl) (by kernel_rfl) [.string ⟨s.toArray⟩] rfl (lines_at s u3) ?_
      rintro e u4 ⟨rfl, hu4⟩
      have hu4 := Hd.mk hu4
      refine ⟨_, rfl, hK _ _ (fun _ => trivial) ?_⟩
      clear hK K
      simp only [Act.put, List.setIfInBounds_toArray, List.set_cons_zero, List.set_cons_succ]
      refine rn_one (i := 20) (dst := some 59) rfl (by kernel_rfl) rfl rfl (fun K hK => ?_)
      refine ow_call 21 _ _ rfl Tryz.func21 (by kernel_rfl) (by kernel_rfl) [.func (.func 63) #[] #[.pointer (some ⟨u3.heap.size, 0, none⟩)], .int .i64 1048576] rfl (said_twice s (by have := hsl.out; omega) 1048576 (by decide) E3.out hu4.out) ?_
      rintro e u5 ⟨⟨va, rfl, ra⟩, k1⟩
      have K4 := Hd.mk (K3.out.andThen k1 (fun _ _ h => h))
      have E4 := Hd.mk (E3.out.keep k1)
      have R4 := Hd.mk (R3.out.keep k1)
      rw [List.take_of_length_le (by have := hn.out; omega)] at ra
      have ra := Hd.mk ra
      refine ⟨_, rfl, hK _ _ (fun _ => trivial) ?_⟩
      clear hK K K3 E3 R3 k1 hu4
      simp only [Act.put, List.setIfInBounds_toArray, List.set_cons_zero, List.set_cons_succ]
      refine rn_one (i := 22) (dst := some 61) rfl (by kernel_rfl) rfl rfl (fun K hK => ?_)
      refine ow_call 20 _ _ rfl Tryz.func20 (by kernel_rfl) (by kernel_rfl) [va, .slice A3 n c3] rfl (eq_at (saidS s) (by have := hn.out; omega) ra.out R4.out) ?_
      rintro e u6 ⟨rfl, k1⟩
      have K5 := Hd.mk (K4.out.andThen k1 (fun _ _ h => h))
      have E5 := Hd.mk (E4.out.keep k1)
      have R5 := Hd.mk (R4.out.keep k1)
      refine ⟨_, rfl, hK _ _ (fun _ => trivial) ?_⟩
      clear hK K K4 E4 R4 k1 ra
      simp only [Act.put, List.setIfInBounds_toArray, List.set_cons_zero, List.set_cons_succ]
      refine rn_take (i := 23) (dst := some 62) (v := .bool true) rfl (by kernel_rfl) (fun _ _ _ h => h) rfl rfl (fun W hW => ex_pick W _ _ _ rfl true _ rfl rfl) hS.out ?_
      simp only [Act.put, List.setIfInBounds_toArray, List.set_cons_zero, List.set_cons_succ]
      refine rn_take (i := 24) (dst := some 63) (v := .bool true) rfl (by kernel_rfl) (fun _ _ _ h => h) rfl rfl (fun W hW => ex_move W _ _ rfl rfl) hS.out ?_
      simp only [Act.put, List.setIfInBounds_toArray, List.set_cons_zero, List.set_cons_succ]
      refine rn_take (i := 25) (dst := some 64) (v := .string ⟨(s).toArray⟩) rfl (by kernel_rfl) (fun _ _ _ h => h) rfl rfl (fun W hW => ex_move W _ _ rfl rfl) hS.out ?_
      simp only [Act.put, List.setIfInBounds_toArray, List.set_cons_zero, List.set_cons_succ]
      refine rn_take (i := 28) (dst := some 67) (v := .slice A3 n c3) rfl (by kernel_rfl) (fun _ _ _ h => h) rfl rfl (fun W hW => ex_move W _ _ rfl rfl) hS.out ?_
      simp only [Act.put, List.setIfInBounds_toArray, List.set_cons_zero, List.set_cons_succ]
      refine rn_take (i := 29) (dst := some 68) (v := .slice A3 n c3) rfl (by kernel_rfl) (fun _ _ _ h => h) rfl rfl (fun W hW => ex_move W _ _ rfl rfl) hS.out ?_
      simp only [Act.put, List.setIfInBounds_toArray, List.set_cons_zero, List.set_cons_succ]
      refine rn_take (i := 30) (dst := some 69) (v := .int .i64 ((n : Nat) : Int)) rfl (by kernel_rfl) (fun _ _ _ h => h) rfl rfl (fun W hW => ex_len W 35 _ rfl Tryz.underlying35 _ n c3 rfl) hS.out ?_
      simp only [Act.put, List.setIfInBounds_toArray, List.set_cons_zero, List.set_cons_succ]
      obtain ⟨k, hk⟩ : ∃ k, Hd (min 1 n = k ∧ k ≤ c3) := ⟨_, ⟨rfl, by have := hn.out; omega⟩⟩
      refine rn_take (i := 31) (dst := some 70) (v := .int .i64 (k : Int)) rfl (by kernel_rfl) (fun _ _ _ h => h) rfl rfl (fun W hW => ex_min1 W _ _ _ rfl n rfl rfl k hk.out.1) hS.out ?_
      simp only [Act.put, List.setIfInBounds_toArray, List.set_cons_zero, List.set_cons_succ]
      refine rn_take (i := 32) (dst := some 71) (v := .slice A3 k c3) rfl (by kernel_rfl) (fun _ _ _ h => h) rfl rfl (fun W hW => ex_cutTop W 35 _ _ rfl Tryz.underlying35 2 (by kernel_rfl) A3 n c3 k rfl rfl hk.out.2) hS.out ?_
      simp only [Act.put, List.setIfInBounds_toArray, List.set_cons_zero, List.set_cons_succ]
      refine rn_one (i := 26) (dst := some 65) rfl (by kernel_rfl) rfl rfl (fun K hK => ?_)
      refine ow_call 22 _ _ rfl Tryz.func22 (by kernel_rfl) (by kernel_rfl) [.string ⟨s.toArray⟩] rfl (lines_at s u6) ?_
      rintro e u7 ⟨rfl, hu7⟩
      have hu7 := Hd.mk hu7
      refine ⟨_, rfl, hK _ _ (fun _ => trivial) ?_⟩
      clear hK K
      simp only [Act.put, List.setIfInBounds_toArray, List.set_cons_zero, List.set_cons_succ]
      refine rn_one (i := 27) (dst := some 66) rfl (by kernel_rfl) rfl rfl (fun K hK => ?_)
      refine ow_call 21 _ _ rfl Tryz.func21 (by kernel_rfl) (by kernel_rfl) [.func (.func 63) #[] #[.pointer (some ⟨u6.heap.size, 0, none⟩)], .int .i64 1] rfl (said_twice s (by have := hsl.out; omega) 1 (by decide) E5.out hu7.out) ?_
      rintro e u8 ⟨⟨vb, rfl, rb⟩, k1⟩
      have K6 := Hd.mk (K5.out.andThen k1 (fun _ _ h => h))
      have R6 := (R5.out.keep k1).take k (by have := hk.out; have := hn.out; omega)
      rw [← hk.out.1, ← hn.out.1, take_min1, hn.out.1, hk.out.1] at R6
      have R6 := Hd.mk R6
      have rb := Hd.mk rb
      refine ⟨_, rfl, hK _ _ (fun _ => trivial) ?_⟩
      clear hK K K5 E5 R5 k1 hu7
      simp only [Act.put, List.setIfInBounds_toArray, List.set_cons_zero, List.set_cons_succ]
      refine rn_one (i := 33) (dst := some 72) rfl (by kernel_rfl) rfl rfl (fun K hK => ?_)
      refine ow_call 20 _ _ rfl Tryz.func20 (by kernel_rfl) (by kernel_rfl) [vb, .slice A3 k c3] rfl (eq_at ((saidS s).take 1) (by simp only [List.length_take]; omega) rb.out R6.out) ?_
      rintro e u9 ⟨rfl, k1⟩
      have K7 := Hd.mk (K6.out.andThen k1 (fun _ _ h => h))
      refine ⟨_, rfl, hK _ _ (fun _ => trivial) ?_⟩
      clear hK K K6 R6 k1 rb
      simp only [Act.put, List.setIfInBounds_toArray, List.set_cons_zero, List.set_cons_succ]
      refine rn_take (i := 34) (dst := some 73) (v := .bool true) rfl (by kernel_rfl) (fun _ _ _ h => h) rfl rfl (fun W hW => ex_pick W _ _ _ rfl true _ rfl rfl) hS.out ?_
      simp only [Act.put, List.setIfInBounds_toArray, List.set_cons_zero, List.set_cons_succ]
      refine rn_take (i := 35) (dst := some 6) (v := .bool true) rfl (by kernel_rfl) (fun _ _ _ h => h) rfl rfl (fun W hW => ex_assign W _ _ rfl rfl) hS.out ?_
      simp only [Act.put, List.setIfInBounds_toArray, List.set_cons_zero, List.set_cons_succ]
      refine rn_done (by kernel_rfl) ?_ _
      clear hS
      go_wp2_with fail
      go_ret
      exact ⟨rfl, K7.out⟩
    · go_enter Tryz.func4, Tryz.ntmps4
      go_wp2_with fail
      refine hlv.out.mono ?_
      rintro e w1 ⟨rfl, k1⟩
      have K1 := Hd.mk k1
      clear k1 hlv
      go_wp2_with (first | (go_at_call 8; refine (live_at (hE.out.keep K1.out)).mono ?_; rintro e w2 ⟨rfl, k2⟩; have K2 := Hd.mk (K1.out.andThen k2 (fun _ _ h => h)); clear k2; dsimp only) | ((with_reducible refine wl_runG ?hw (ex_gtr _ 3 3 (.tmp 16) (.const (.int .i64 5000)) rfl .i64 (b.length : Int) 5000 rfl rfl false hg1.out) ?_); (case hw => rfl); simp only [Act.put, List.setIfInBounds_toArray, List.set_cons_zero, List.set_cons_succ]) | ((with_reducible refine wl_runG ?hw (ex_gtr _ 3 3 (.tmp 21) (.const (.int .i64 5000)) rfl .i64 (s.length : Int) 5000 rfl rfl true hg2.out) ?_); (case hw => rfl); simp only [Act.put, List.setIfInBounds_toArray, List.set_cons_zero, List.set_cons_succ]))
      go_ret
      exact ⟨rfl, K2.out⟩
  · go_enter Tryz.func4, Tryz.ntmps4
    go_wp2_with fail
    refine hlv.out.mono ?_
    rintro e w1 ⟨rfl, k1⟩
    have K1 := Hd.mk k1
    clear k1 hlv
    go_wp2_with (first | (go_at_call 8; refine (live_at (hE.out.keep K1.out)).mono ?_; rintro e w2 ⟨rfl, k2⟩; have K2 := Hd.mk (K1.out.andThen k2 (fun _ _ h => h)); clear k2; dsimp only) | ((with_reducible refine wl_runG ?hw (ex_gtr _ 3 3 (.tmp 16) (.const (.int .i64 5000)) rfl .i64 (b.length : Int) 5000 rfl rfl true hg1.out) ?_); (case hw => rfl); simp only [Act.put, List.setIfInBounds_toArray, List.set_cons_zero, List.set_cons_succ]))
    go_ret
    exact ⟨rfl, K2.out⟩
end Go.Proofs.YtkcechpaeilaeaaGreatDoor
