/- Operations on strings, in the words of lists of bytes. Nothing here names the program. -/
import Derived.Test.YtkcechpaeilaeaaGreatDoorAp2
import Derived.Test.YtkcechpaeilaeaaGreatDoorA0
import Derived.Laws.IdiomStrings
import Derived.Laws.Strings3
import Derived.Laws.BytesArg
namespace Go.Proofs.YtkcechpaeilaeaaGreatDoor
open Go.RowKit
set_option linter.unusedVariables false
set_option linter.unusedSimpArgs false
variable {P : Program} {ops : Array Oper} {rest : List Oper} {o : Oper} {a : Act} {Q : Exit → Act → World → Prop} {K : Act → World → Prop}

theorem ex_notb (w : World) (t : Nat) (x : Operand) (ho : o.op = .unOp .not t x) (b c : Bool) (hc : c = !b) (hx : a.eval x = .bool b) : (execOp a.eval o).run P w = .ok (.value (.bool c)) w := by
  subst hc
  exact ex_not w t x ho b hx
theorem ex_neqB (w : World) (t t2 : Nat) (x y : Operand) (ho : o.op = .binOp .neq t x y t2) (ht : P.underlying t = some .bool) (p q : Bool) (hx : a.eval x = .bool p) (hy : a.eval y = .bool q) (b : Bool) (hb : (p != q) = b) : (execOp a.eval o).run P w = .ok (.value (.bool b)) w := by
  have e : (binOp .neq t (.bool p) (.bool q)).run P w = .ok (.bool (p != q)) w := by
    exact run_neq_bool w t p q ht
  unfold execOp
  simp only [ho, hx, hy, Sem.run_bind, eqGuard_at_bool, Sem.run_pure, Result.andThen_ok, e, hb]
/-- .. under a guard that says yes. -/
theorem wl_runG {w w' : World} {v : Value} (hw : Region.wanted o (yielded ops a.tmps) = true) (hr : (execOp a.eval o).run P w = .ok (.value v) w') (h : wpList P ops Q rest (a.put o.dst v) w') : wpList P ops Q (o :: rest) a w :=
  wpList_step fun K hK => by rw [if_pos hw]; exact ow_run hr (hK _ _ h)
theorem sz (l : List UInt8) : (ByteArray.mk l.toArray).size = l.length := by simp [ByteArray.size]
/-- The byte at a place. -/
theorem ex_sidx (w : World) (t : TypeId) (x i : Operand) (ho : o.op = .index t x i) (ht : P.underlying t = some .string) (k : IntKind) (l : List UInt8) (n : Nat) (r : UInt8) (hr : l[n]? = some r)
    (z : Int) (hz : z = (n : Int)) (hx : a.eval x = .string ⟨l.toArray⟩) (hi : a.eval i = .int k z) : (execOp a.eval o).run P w = .ok (.value (.int .u8 (r.toNat : Int))) w := by
  subst hz
  obtain ⟨hn, rfl⟩ := List.getElem?_eq_some_iff.1 hr
  have e : (Instr.index t (.string ⟨l.toArray⟩) (.int k (n : Int))).run P w = .ok (.int .u8 (l[n].toNat : Int)) w := by
    rw [run_index_string w t _ k _ ht, dif_pos (by rw [sz]; omega)]
    rfl
  unfold execOp
  simp only [ho, hx, hi, Sem.run_bind, e, Result.andThen_ok]
  rfl
/-- One behind the other. -/
theorem ex_scat (w : World) (t t2 : TypeId) (x y : Operand) (ho : o.op = .binOp .add t x y t2) (p q : List UInt8) (hl : p.length + q.length ≤ 9000000000000000000)
    (hx : a.eval x = .string ⟨p.toArray⟩) (hy : a.eval y = .string ⟨q.toArray⟩) : (execOp a.eval o).run P w = .ok (.value (.string ⟨(p ++ q).toArray⟩)) w := by
  have e : (binOp .add t (.string ⟨p.toArray⟩) (.string ⟨q.toArray⟩)).run P w = .ok (.string ⟨(p ++ q).toArray⟩) w := by
    rw [binOp_string_add, Op.stringOp]
    simp only [sz]
    rw [if_neg (by have : IntKind.i64.max = 9223372036854775807 := by decide
                   omega)]
    rw [Sem.run_pure]
    congr 2
  unfold execOp
  simp only [ho, hx, hy, Sem.run_bind, eqGuard_at_string, Sem.run_pure, Result.andThen_ok, e]
theorem toList_S (l : List UInt8) : (ByteArray.mk l.toArray).toList = l := ByteArray.toList_mk l
theorem ex_seql (w : World) (t t2 : TypeId) (x y : Operand) (ho : o.op = .binOp .eql t x y t2) (p q : List UInt8) (b : Bool) (hb : (p == q) = b)
    (hx : a.eval x = .string ⟨p.toArray⟩) (hy : a.eval y = .string ⟨q.toArray⟩) : (execOp a.eval o).run P w = .ok (.value (.bool b)) w := by
  have e : (binOp .eql t (.string ⟨p.toArray⟩) (.string ⟨q.toArray⟩)).run P w = .ok (.bool b) w := by
    rw [binOp_string_eql, toList_S, toList_S, ← hb]
    rfl
  unfold execOp
  simp only [ho, hx, hy, Sem.run_bind, eqGuard_at_string, Sem.run_pure, Result.andThen_ok, e]
theorem ex_sneq (w : World) (t t2 : TypeId) (x y : Operand) (ho : o.op = .binOp .neq t x y t2) (p q : List UInt8) (b : Bool) (hb : (p != q) = b)
    (hx : a.eval x = .string ⟨p.toArray⟩) (hy : a.eval y = .string ⟨q.toArray⟩) : (execOp a.eval o).run P w = .ok (.value (.bool b)) w := by
  have e : (binOp .neq t (.string ⟨p.toArray⟩) (.string ⟨q.toArray⟩)).run P w = .ok (.bool b) w := by
    rw [binOp_string_neq, toList_S, toList_S, ← hb]
    rfl
  unfold execOp
  simp only [ho, hx, hy, Sem.run_bind, eqGuard_at_string, Sem.run_pure, Result.andThen_ok, e]
theorem ex_slen (w : World) (t : Nat) (x : Operand) (ho : o.op = .call { callee := .builtin .len, args := #[x], argTypes := #[t] }) (ht : P.underlying t = some .string) (l : List UInt8) (hx : a.eval x = .string ⟨l.toArray⟩) : (execOp a.eval o).run P w = .ok (.value (.int .i64 (l.length : Int))) w := by
  unfold execOp
  simp only [ho, resolve, invoke, builtin, Sem.run_bind, Sem.run_pure, Result.andThen_ok, List.map_toArray, List.map_cons, List.map_nil, hx]
  rw [run_len_string w t _ _ ht, sz]
  rfl
theorem ex_sfrom (w : World) (t : Nat) (x i : Operand) (ho : o.op = .slice t x (some i) none none) (ht : P.underlying t = some .string) (l : List UInt8) (k : IntKind) (n : Nat) (hn : n ≤ l.length) (hx : a.eval x = .string ⟨l.toArray⟩) (hi : a.eval i = .int k (n : Int)) :
    (execOp a.eval o).run P w = .ok (.value (.string ⟨(l.drop n).toArray⟩)) w := by
  have e : (Instr.slice t (.string ⟨l.toArray⟩) (some (.int k (n : Int))) none none).run P w = .ok (.string ⟨(l.drop n).toArray⟩) w := by
    rw [run_slice_string_l w t _ ht k n (by omega) (by rw [sz]; omega), sz, ByteArray.extract_mk]
    congr 4
    rw [Int.toNat_natCast, List.take_of_length_le (by simp)]
  unfold execOp
  simp only [ho, hx, hi, Option.map_some, Option.map_none, Sem.run_bind, run_sliceAt_string w t _ _ _ _ ht, e, Result.andThen_ok, Sem.run_pure]
theorem ex_sto (w : World) (t : Nat) (x i : Operand) (ho : o.op = .slice t x none (some i) none) (ht : P.underlying t = some .string) (l : List UInt8) (k : IntKind) (n : Nat) (hn : n ≤ l.length) (hx : a.eval x = .string ⟨l.toArray⟩) (hi : a.eval i = .int k (n : Int)) :
    (execOp a.eval o).run P w = .ok (.value (.string ⟨(l.take n).toArray⟩)) w := by
  have e : (Instr.slice t (.string ⟨l.toArray⟩) none (some (.int k (n : Int))) none).run P w = .ok (.string ⟨(l.take n).toArray⟩) w := by
    rw [run_slice_string_h w t _ ht k n (by omega) (by rw [sz]; omega), ByteArray.extract_mk]
    simp
  unfold execOp
  simp only [ho, hx, hi, Option.map_some, Option.map_none, Sem.run_bind, run_sliceAt_string w t _ _ _ _ ht, e, Result.andThen_ok, Sem.run_pure]
theorem ex_scut (w : World) (t : Nat) (x i j : Operand) (ho : o.op = .slice t x (some i) (some j) none) (ht : P.underlying t = some .string) (l : List UInt8) (k : IntKind) (m n : Nat) (hm : m ≤ n) (hn : n ≤ l.length) (hx : a.eval x = .string ⟨l.toArray⟩) (hi : a.eval i = .int k (m : Int)) (hj : a.eval j = .int k (n : Int)) :
    (execOp a.eval o).run P w = .ok (.value (.string ⟨((l.drop m).take (n - m)).toArray⟩)) w := by
  have e : (Instr.slice t (.string ⟨l.toArray⟩) (some (.int k (m : Int))) (some (.int k (n : Int))) none).run P w = .ok (.string ⟨((l.drop m).take (n - m)).toArray⟩) w := by
    rw [run_slice_string w t _ k k m n ht (by omega) (by omega) (by rw [sz]; omega), ByteArray.extract_mk]
    simp
  unfold execOp
  simp only [ho, hx, hi, hj, Option.map_some, Option.map_none, Sem.run_bind, run_sliceAt_string w t _ _ _ _ ht, e, Result.andThen_ok, Sem.run_pure]
/-- The text of bytes. -/
theorem ex_tostr (w : World) (s d e : TypeId) (x : Operand) (ho : o.op = .convert s d x) (hs : P.underlying s = some (.slice e)) (he : P.underlying e = some (.int .u8)) (hd : P.underlying d = some .string) (v : Value) (l : List UInt8) (hb : Bs w v (ints l)) (hx : a.eval x = v) :
    (execOp a.eval o).run P w = .ok (.value (.string ⟨l.toArray⟩)) w := by
  have e : (convert s d v).run P w = .ok (.string ⟨l.toArray⟩) w := by
    obtain ⟨A, c, rfl, hc, hr⟩ := hb
    rw [ints_length]
    rcases hr with hr | ⟨b, off, rfl, hr⟩
    · have : l = [] := by cases l with
        | nil => rfl
        | cons _ _ => simp [ints] at hr
      subst this
      cases A with
      | none => rw [run_convert_bytes_nil w s e hs he _ _ d hd]; rfl
      | some ad => exact run_convert_bytes_back w s d e ad c [] hs he hd (fun j hj => by simp at hj)
    · refine run_convert_bytes_back w s d e _ c l hs he hd (fun j hj => ?_)
      rw [Addr.add_mid]
      exact hr j _ (ints_get l j hj)
  unfold execOp
  simp only [ho, hx, Sem.run_bind, e]
  rfl
theorem tobytes_Bs (w : World) (e : TypeId) (l : List UInt8) (cp : Nat) (hcp : l.length ≤ cp) (fz : Nat × Nat) : Bs (w.drew.alloc (.cells (bytesRow ⟨l.toArray⟩ cp) e fz)) (.slice (some ⟨w.heap.size, 0, none⟩) l.length cp) (ints l) := by
  refine ⟨_, _, by rw [ints_length], by rw [ints_length]; exact hcp, .inr ⟨_, 0, rfl, fun j v hj => ?_⟩⟩
  have hj' : j < l.length := by
    have := (List.getElem?_eq_some_iff.1 hj).1
    simpa using this
  rw [ints_get l j hj'] at hj
  injection hj with hj
  subst hj
  have hb : (w.drew.alloc (.cells (bytesRow ⟨l.toArray⟩ cp) e fz)).heap[w.heap.size]? = some (.cells (bytesRow ⟨l.toArray⟩ cp) e fz) := by
    show (w.heap.push _)[w.heap.size]? = _
    simp
  rw [Lib.cell_of_heap hb, Nat.zero_add, bytesRow_at _ _ _ (by simpa using hj')]
  simp
/-- The bytes of a text: a new row. -/
theorem wl_tobytes {w : World} (hg : o.guard = none) (s d e : TypeId) (x : Operand) (ho : o.op = .convert s d x) (hs : P.underlying s = some .string) (hd : P.underlying d = some (.slice e)) (he : P.underlying e = some (.int .u8)) (l : List UInt8) (hx : a.eval x = .string ⟨l.toArray⟩)
    (h : ∀ v w', Bs w' v (ints l) → Kp (fun _ => False) w w' → w.heap.size < w'.heap.size → v.ownBlock = some w.heap.size → wpList P ops Q rest (a.put o.dst v) w') : wpList P ops Q (o :: rest) a w := by
  have e1 := run_bytes_of_string (P := P) w s d e ⟨l.toArray⟩ hs hd he
  rw [sz] at e1
  refine wl_run hg (v := .slice (some ⟨w.heap.size, 0, none⟩) l.length (grownCap w l.length 0 e)) (w' := w.drew.alloc (.cells (bytesRow ⟨l.toArray⟩ (grownCap w l.length 0 e)) e ((bytesRow ⟨l.toArray⟩ (grownCap w l.length 0 e)).size, (bytesRow ⟨l.toArray⟩ (grownCap w l.length 0 e)).size + 1))) ?_ (h _ _ (tobytes_Bs w e l _ (grownCap_ge _ _ _ _) _) (((Kp.refl _ w).drew).alloc _) ?_ rfl)
  · unfold execOp
    simp only [ho, hx, Sem.run_bind, e1]
    rfl
  · show w.heap.size < (w.heap.push _).size
    simp
/-! ### Small numbers -/
theorem ex_shr4 (w : World) (t t2 : TypeId) (x y : Operand) (ho : o.op = .binOp .shr t x y t2) (c : Nat) (hx : a.eval x = .int .u8 (c : Int)) (hy : a.eval y = .int .u64 4) : (execOp a.eval o).run P w = .ok (.value (.int .u8 ((c / 16 : Nat) : Int))) w := by
  unfold execOp
  simp only [ho, hx, hy, Sem.run_bind, eqGuard_shr, binOp_shr, Sem.run_pure, Result.andThen_ok]
  rw [shift_shr .u8 .u64 (c : Int) 4 (by decide) (by decide)]
  rfl
theorem and15 : ∀ c : Nat, c < 256 → bits .and .u8 (c : Int) 15 = ((c % 16 : Nat) : Int) := by decide +kernel
theorem or16 : ∀ h : Nat, h < 16 → ∀ m : Nat, m < 16 → bits .or .i64 ((16 * h : Nat) : Int) ((m : Nat) : Int) = ((16 * h + m : Nat) : Int) := by decide +kernel
theorem ex_and15 (w : World) (t t2 : TypeId) (x y : Operand) (ho : o.op = .binOp .and t x y t2) (c : Nat) (hc : c < 256) (hx : a.eval x = .int .u8 (c : Int)) (hy : a.eval y = .int .u8 15) : (execOp a.eval o).run P w = .ok (.value (.int .u8 ((c % 16 : Nat) : Int))) w := by
  unfold execOp
  simp only [ho, hx, hy, Sem.run_bind, eqGuard_and, binOp_and, intBits_and, and15 c hc, Sem.run_pure, Result.andThen_ok]
theorem ex_or16 (w : World) (t t2 : TypeId) (x y : Operand) (ho : o.op = .binOp .or t x y t2) (h m : Nat) (hh : h < 16) (hm : m < 16) (hx : a.eval x = .int .i64 ((16 * h : Nat) : Int)) (hy : a.eval y = .int .i64 (m : Int)) : (execOp a.eval o).run P w = .ok (.value (.int .i64 ((16 * h + m : Nat) : Int))) w := by
  unfold execOp
  simp only [ho, hx, hy, Sem.run_bind, eqGuard_or, binOp_or, intBits_or, or16 h hh m hm, Sem.run_pure, Result.andThen_ok]
theorem ex_shl4 (w : World) (t t2 : TypeId) (x y : Operand) (ho : o.op = .binOp .shl t x y t2) (h : Nat) (hh : h < 16) (hx : a.eval x = .int .i64 (h : Int)) (hy : a.eval y = .int .u64 4) : (execOp a.eval o).run P w = .ok (.value (.int .i64 ((16 * h : Nat) : Int))) w := by
  have hb : binOp .shl t (.int .i64 (h : Int)) (.int .u64 4) = Op.shift .shl .i64 (h : Int) .u64 4 := by simp [binOp]
  unfold execOp
  simp only [ho, hx, hy, Sem.run_bind, eqGuard_shl, hb, Sem.run_pure, Result.andThen_ok]
  rw [shift_shl .i64 .u64 (h : Int) 4 (by decide) (by decide)]
  have e : IntKind.i64.wrap ((h : Int) * 2 ^ (4 : Int).toNat) = ((16 * h : Nat) : Int) := by
    have e4 : (h : Int) * 2 ^ (4 : Int).toNat = ((16 * h : Nat) : Int) := by
      show (h : Int) * 16 = _
      omega
    rw [e4, IntKind.wrap_i64]
    omega
  rw [e]
  rfl
end Go.Proofs.YtkcechpaeilaeaaGreatDoor
