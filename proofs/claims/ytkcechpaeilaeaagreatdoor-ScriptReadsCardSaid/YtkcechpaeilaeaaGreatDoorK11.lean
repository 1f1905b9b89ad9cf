/- Joined out of: Aw Sp. -/
import Derived.Test.YtkcechpaeilaeaaGreatDoorK7
import Derived.Test.YtkcechpaeilaeaaGreatDoorK8
import Derived.Test.YtkcechpaeilaeaaGreatDoorK10
set_option linter.unusedVariables false
set_option linter.unusedSimpArgs false
namespace Go.Proofs.YtkcechpaeilaeaaGreatDoor
open Go.RowKit
set_option maxRecDepth 20000
structure Aw (w wr : World) (Z B : Nat) (d : Int) (k t : List UInt8) (n : Int) (p : List UInt8) (At : Option Addr) (ct : Nat) (Ap : Option Addr) (cp : Nat) : Prop where
 av : Av w wr Z B (.int .i64 d) (.string ⟨k.toArray⟩) (.slice At t.length ct) (.int .i64 n) (.slice Ap p.length cp)
 bt : Bs wr (.slice At t.length ct) (ints t)
 ft : ∀ b, (Value.slice At t.length ct).ownBlock = some b → B < b
 op : Ob (B + 1) wr (.slice Ap p.length cp) (ints p)
section
variable {w wr wr' : World} {Z B : Nat} {d n : Int} {k t p : List UInt8} {At Ap : Option Addr} {ct cp : Nat}
theorem Aw.start {w1 : World} (hk : KZ (w.alloc (.cells Z5.toArray 24)) w1) : Aw w (w1.alloc (.cells Z5.toArray 24)) w.heap.size w1.heap.size 0 [] [] 0 [] none 0 none 0 := by
 have h1 : w.heap.size < w1.heap.size := Nat.lt_of_lt_of_le (by show w.heap.size < (w.heap.push _).size; simp) hk.size
 refine ⟨⟨?_, ?_, Blk.new w1 Z5 24, Nat.le_refl _, h1⟩, ⟨none, 0, rfl, Nat.le_refl _, .inl rfl⟩, (fun b hb => by cases hb), Ob.nil _ _⟩
 ·exact (((Kp.refl (fun _ => False) w).alloc _).th (hk.th ((Kp.refl _ w1).alloc _))).below
 ·exact Blk.alloc (show Blk w1 w.heap.size Z5 24 from hk.keeps (Blk.new w Z5 24) id) _
theorem Aw.keep (h : Aw w wr Z B d k t n p At ct Ap cp) (hk : KZ wr wr') : Aw w wr' Z B d k t n p At ct Ap cp :=
 ⟨h.av.keep hk, Bs.keep h.bt (fun b hb _ => hk.block b hb id), h.ft, h.op.keep hk⟩
theorem Aw.ev (h : Aw w wr Z B d k t n p At ct Ap cp) (hE : Ev w) : Ev wr := h.av.ev hE
theorem bt_set (hb : Bs wr (.slice At t.length ct) (ints t)) (hf : ∀ b, (Value.slice At t.length ct).ownBlock = some b → B < b) (hk : Kp (· = B) wr wr') : Bs wr' (.slice At t.length ct) (ints t) :=
 Bs.keep hb (fun b hb ho => hk.block b hb (fun e => by have := hf b ho; omega))
theorem op_set (h : Ob (B + 1) wr (.slice Ap p.length cp) (ints p)) (hk : Kp (· = B) wr wr') : Ob (B + 1) wr' (.slice Ap p.length cp) (ints p) :=
 ⟨ownsRow_keep h.own (fun b hb hs => hk.block b hs (fun e => by have := h.new b hb; omega)), h.new⟩
section
variable {ops : Array Oper} {rest : List Oper} {o : Oper} {a : Act} {Q : Exit → Act → World → Prop}
theorem wl_setd (hg : o.guard = none) (x y : Operand) (ho : o.op = .store 3 x y) (h : Aw w wr Z B d k t n p At ct Ap cp) (v : Int) (hx : a.eval x = .pointer (some ⟨B, 0, none⟩)) (hy : a.eval y = .int .i64 v)
  (hn : ∀ w2, Aw w w2 Z B v k t n p At ct Ap cp → wpList Tryz.prog ops Q rest (a.put o.dst undef) w2) : wpList Tryz.prog ops Q (o :: rest) a wr :=
 wl_av hg x y ho h.av 0 (.int .i64 v) (by kernel_rfl) hx hy rfl rfl rfl rfl (fun w2 h2 hk => hn w2 ⟨h2, bt_set h.bt h.ft hk, h.ft, op_set h.op hk⟩)
theorem wl_setn (hg : o.guard = none) (x y : Operand) (ho : o.op = .store 3 x y) (h : Aw w wr Z B d k t n p At ct Ap cp) (v : Int) (hx : a.eval x = .pointer (some ⟨B, 3, none⟩)) (hy : a.eval y = .int .i64 v)
  (hn : ∀ w2, Aw w w2 Z B d k t v p At ct Ap cp → wpList Tryz.prog ops Q rest (a.put o.dst undef) w2) : wpList Tryz.prog ops Q (o :: rest) a wr :=
 wl_av hg x y ho h.av 3 (.int .i64 v) (by kernel_rfl) hx hy rfl rfl rfl rfl (fun w2 h2 hk => hn w2 ⟨h2, bt_set h.bt h.ft hk, h.ft, op_set h.op hk⟩)
theorem wl_setk (hg : o.guard = none) (x y : Operand) (ho : o.op = .store 9 x y) (h : Aw w wr Z B d k t n p At ct Ap cp) (v : List UInt8) (hx : a.eval x = .pointer (some ⟨B, 1, none⟩)) (hy : a.eval y = .string ⟨v.toArray⟩)
  (hn : ∀ w2, Aw w w2 Z B d v t n p At ct Ap cp → wpList Tryz.prog ops Q rest (a.put o.dst undef) w2) : wpList Tryz.prog ops Q (o :: rest) a wr :=
 wl_av hg x y ho h.av 1 (.string ⟨v.toArray⟩) (by kernel_rfl) hx hy rfl rfl rfl rfl (fun w2 h2 hk => hn w2 ⟨h2, bt_set h.bt h.ft hk, h.ft, op_set h.op hk⟩)
theorem wl_sett (hg : o.guard = none) (x y : Operand) (ho : o.op = .store 22 x y) (h : Aw w wr Z B d k t n p At ct Ap cp) (At' : Option Addr) (ct' : Nat) (t' : List UInt8) (hx : a.eval x = .pointer (some ⟨B, 2, none⟩)) (hy : a.eval y = .slice At' t'.length ct')
  (hb : Bs wr (.slice At' t'.length ct') (ints t')) (hf : ∀ b, (Value.slice At' t'.length ct').ownBlock = some b → B < b)
  (hn : ∀ w2, Aw w w2 Z B d k t' n p At' ct' Ap cp → wpList Tryz.prog ops Q rest (a.put o.dst undef) w2) : wpList Tryz.prog ops Q (o :: rest) a wr :=
 wl_av hg x y ho h.av 2 (.slice At' t'.length ct') (by kernel_rfl) hx hy rfl rfl rfl rfl (fun w2 h2 hk => hn w2 ⟨h2, bt_set hb hf hk, hf, op_set h.op hk⟩)
theorem wl_setp (hg : o.guard = none) (x y : Operand) (ho : o.op = .store 22 x y) {p0 : List UInt8} {A0 : Option Addr} {c0 : Nat} (hav : Av w wr Z B (.int .i64 d) (.string ⟨k.toArray⟩) (.slice At t.length ct) (.int .i64 n) (.slice A0 p0.length c0)) (hbt : Bs wr (.slice At t.length ct) (ints t)) (hft : ∀ b, (Value.slice At t.length ct).ownBlock = some b → B < b)
  (Ap' : Option Addr) (cp' : Nat) (p' : List UInt8) (hx : a.eval x = .pointer (some ⟨B, 4, none⟩)) (hy : a.eval y = .slice Ap' p'.length cp') (hop : Ob (B + 1) wr (.slice Ap' p'.length cp') (ints p'))
  (hn : ∀ w2, Aw w w2 Z B d k t n p' At ct Ap' cp' → Kp (· = B) wr w2 → wpList Tryz.prog ops Q rest (a.put o.dst undef) w2) : wpList Tryz.prog ops Q (o :: rest) a wr :=
 wl_av hg x y ho hav 4 (.slice Ap' p'.length cp') (by kernel_rfl) hx hy rfl rfl rfl rfl (fun w2 h2 hk => hn w2 ⟨h2, bt_set hbt hft hk, hft, op_set hop hk⟩ hk)
theorem ex_act (x : Operand) (ho : o.op = .load 24 x) (h : Aw w wr Z B d k t n p At ct Ap cp) (hx : a.eval x = .pointer (some ⟨B, 0, none⟩)) :
  (execOp a.eval o).run Tryz.prog wr = .ok (.value (.agg #[.int .i64 d, .string ⟨k.toArray⟩, .slice At t.length ct, .int .i64 n, .slice Ap p.length cp])) wr :=
 ex_load_mid wr 24 x ho B 0 hx [.int .i64 d, .string ⟨k.toArray⟩, .slice At t.length ct, .int .i64 n, .slice Ap p.length cp] h.av.all Tryz.underlying24 rfl (by kernel_rfl)
theorem wl_res (hg : o.guard = none) (x y : Operand) (ho : o.op = .store 24 x y) (h : Aw w wr Z B d k t n p At ct Ap cp) (cs : List Value) (hx : a.eval x = .pointer (some ⟨Z, 0, none⟩)) (hy : a.eval y = .agg cs.toArray) (hl : cs.length = 5) (h1 : ∀ v ∈ cs, v.oneCell' = true)
  (hn : ∀ w2, Blk w2 Z cs 24 → KZ w w2 → BsF w.heap.size w2 (.slice At t.length ct) (ints t) → BsF w.heap.size w2 (.slice Ap p.length cp) (ints p) → wpList Tryz.prog ops Q rest (a.put o.dst undef) w2) : wpList Tryz.prog ops Q (o :: rest) a wr := by
 refine wl_store_mid hg 24 x y ho Z 0 24 Z5 cs hx hy h.av.zero (by rw [hl]; decide) (by rw [hl]; kernel_rfl) h1 (fun w2 hb hk hs => hn w2 ?_ ?_ ?_ ?_)
 ·have : splice Z5 0 cs = cs := splice_all Z5 cs (by rw [hl]; rfl)
  rw [this] at hb
  exact hb
 ·exact Kp.of_below (h.av.old.trans (hk.toBelow h.av.old.size (fun k e => by rw [e]; exact h.av.hz))) _
 ·exact ⟨Bs.keep h.bt (fun b hb ho => hk.block b hb (fun e => by have := h.ft b ho; have := h.av.ne; omega)), fun k hk' => by have := h.ft k hk'; have := h.av.ne; have := h.av.hz; omega⟩
 ·exact ⟨Bs.keep h.op.bs (fun b hb ho => hk.block b hb (fun e => by have := h.op.new b ho; have := h.av.ne; omega)), fun k hk' => by have := h.op.new k hk'; have := h.av.ne; have := h.av.hz; omega⟩
end
end
theorem cut_to {l x y : List UInt8} (h1 : wd l = x) (h2 : rs l = y) (hl : l.length < 70000) {w : World} (hE : Ev w) : Calls Tryz.prog 50 #[.string ⟨l.toArray⟩] w fun e w' => e = .returned (.tuple #[.string ⟨x.toArray⟩, .string ⟨y.toArray⟩]) ∧ KZ w w' := by
 subst h1 h2; exact cut_at (by omega) hE
theorem num_to {s : List UInt8} {v : Int} (h : num s = v) (hs : s.length < 70000) {w : World} (hE : Ev w) : Calls Tryz.prog 51 #[.string ⟨s.toArray⟩] w fun e w' => (∃ b, e = .returned (.tuple #[.int .i64 v, .bool b])) ∧ KZ w w' := by
 subst h
 refine (num_at s (by omega) hE).mono ?_
 rintro e w' ⟨rfl, hk⟩
 exact ⟨⟨_, rfl⟩, hk⟩
theorem uqr_get {w w' : World} {r : Option (List UInt8)} {e : Ending} {v : List UInt8} (hv : r.getD [] = v) (h : UqR w w' r e) : (∃ Aq cq er, e = .returned (.tuple #[.slice Aq v.length cq, .int .i64 er]) ∧ Bs w' (.slice Aq v.length cq) (ints v) ∧ (∀ b, (Value.slice Aq v.length cq).ownBlock = some b → w.heap.size ≤ b)) ∧ KZ w w' := by
 subst hv
 obtain ⟨h1, h2⟩ := h
 refine ⟨?_, h2⟩
 cases r with
 | none => exact ⟨none, 0, 270, h1, ⟨none, 0, rfl, Nat.le_refl _, .inl rfl⟩, fun b hb => by cases hb⟩
 | some b =>
  obtain ⟨v, h1, h3⟩ := h1
  have hb := h3.bs
  obtain ⟨Aq, cq, rfl, hc, hr⟩ := hb
  have e : (ints b).length = b.length := ints_length b
  have h4 := h3.bs
  have h5 := h3.new
  rw [e] at h1 h4 h5
  exact ⟨Aq, cq, 0, h1, h4, h5⟩
theorem unq_to (s : List UInt8) (bl : Bool) {v : List UInt8} (hv : (uq bl s).getD [] = v) (hs : s.length < 70000) (w : World) : Calls Tryz.prog 14 #[.string ⟨s.toArray⟩, .bool bl] w fun e w' => (∃ Aq cq er, e = .returned (.tuple #[.slice Aq v.length cq, .int .i64 er]) ∧ Bs w' (.slice Aq v.length cq) (ints v) ∧ (∀ b, (Value.slice Aq v.length cq).ownBlock = some b → w.heap.size ≤ b)) ∧ KZ w w' :=
 (unquote_at s bl (by omega)).mono fun e w' h => uqr_get hv h
theorem runq_to (s : List UInt8) (bl : Bool) {v : List UInt8} (hv : (uq bl s).getD [] = v) (hs : s.length < 70000) (w : World) : Calls Tryz.prog 15 #[.string ⟨s.toArray⟩, .bool bl] w fun e w' => (∃ Aq cq er, e = .returned (.tuple #[.slice Aq v.length cq, .int .i64 er]) ∧ Bs w' (.slice Aq v.length cq) (ints v) ∧ (∀ b, (Value.slice Aq v.length cq).ownBlock = some b → w.heap.size ≤ b)) ∧ KZ w w' :=
 (runquote_at s bl (by omega)).mono fun e w' h => uqr_get hv h
def Again (a : A) (l : List UInt8) (e : Ending) : Prop :=
 (e = .returned (.tuple #[.string ⟨l.toArray⟩, .int .i64 0]) ∧ may a ∧ line a = l) ∨ (∃ s : List UInt8, e = .returned (.tuple #[.string ⟨s.toArray⟩, .int .i64 0]) ∧ (s != l) = true ∧ ¬ (may a ∧ line a = l)) ∨ (e = .returned (.tuple #[.string ⟨#[]⟩, .int .i64 270]) ∧ ¬ (may a ∧ line a = l))
theorem again_of {a : A} {l : List UInt8} {e : Ending} (h : e = .returned (lineV a)) : Again a l e := by
 subst h
 by_cases hm : may a
 ·rw [lineV_yes hm]
  by_cases hl : line a = l
  ·exact .inl ⟨by rw [hl], hm, hl⟩
  ·exact .inr (.inl ⟨_, rfl, by simpa using hl, fun h => hl h.2⟩)
 ·rw [lineV_no hm]
  exact .inr (.inr ⟨rfl, fun h => hm h.1⟩)
theorem line_to (a : A) (l : List UInt8) {w : World} (hE : Ev w) (At : Option Addr) (ct : Nat) (Ap : Option Addr) (cp : Nat) (hT : Bs w (.slice At a.t.length ct) (ints a.t)) (hP : Bs w (.slice Ap a.p.length cp) (ints a.p)) :
  Calls Tryz.prog 9 #[.agg #[.int .i64 a.d, .string ⟨a.k.toArray⟩, .slice At a.t.length ct, .int .i64 a.n, .slice Ap a.p.length cp]] w fun e w' => Again a l e ∧ KZ w w' :=
 (line_at a hE At ct Ap cp hT hP).mono fun e w' h => ⟨again_of h.1, h.2⟩
theorem rline_to (a : A) (l : List UInt8) {w : World} (At : Option Addr) (ct : Nat) (Ap : Option Addr) (cp : Nat) (hT : Bs w (.slice At a.t.length ct) (ints a.t)) (hP : Bs w (.slice Ap a.p.length cp) (ints a.p)) :
  Calls Tryz.prog 10 #[.agg #[.int .i64 a.d, .string ⟨a.k.toArray⟩, .slice At a.t.length ct, .int .i64 a.n, .slice Ap a.p.length cp]] w fun e w' => Again a l e ∧ KZ w w' :=
 (rline_at a At ct Ap cp hT hP).mono fun e w' h => ⟨again_of h.1, h.2⟩
theorem index_bl (s : List UInt8) : Lib.index s [32] = -1 ∨ ∃ i : Nat, Lib.index s [32] = i ∧ i < s.length := by
 rcases wd_split s with ⟨h1, _, _⟩ | ⟨h1, h2⟩
 ·exact .inl (index_no_blank s h1)
 ·refine .inr ⟨(wd s).length, ?_, ?_⟩
  ·have := index_blank (wd s) (rs s) h1
   rw [← h2] at this
   exact this
  ·have := congrArg List.length h2
   rw [List.length_append, List.length_cons] at this
   omega
theorem splitK_count : ∀ (f : Nat) (s : List UInt8), s.length < f → Lib.countFrom [32] f s ≤ s.length ∧ (Lib.splitK [32] 0 (Lib.countFrom [32] f s) s).length = Lib.countFrom [32] f s + 1 ∧ ∀ k, Lib.countFrom [32] f s ≤ k → Lib.splitK [32] 0 k s = Lib.splitK [32] 0 (Lib.countFrom [32] f s) s
 | 0, s, h => by omega
 | f + 1, s, h => by
  rcases index_bl s with hi | ⟨i, hi, hlt⟩
  ·have e : Lib.countFrom [32] (f + 1) s = 0 := by simp [Lib.countFrom, hi]
   rw [e]
   refine ⟨by omega, rfl, fun k _ => ?_⟩
   cases k with
   | zero => rfl
   | succ k => simp [Lib.splitK, hi]
  ·have hn : ¬ (Lib.index s [32] == -1) = true := by rw [hi]; simp
   have hd : (s.drop ((Lib.index s [32]).toNat + ([32] : List UInt8).length)).length < f := by
    rw [hi, List.length_drop]
    simp
    omega
   have hd2 : (s.drop ((Lib.index s [32]).toNat + ([32] : List UInt8).length)).length + 1 ≤ s.length := by
    rw [hi, List.length_drop]
    simp
    omega
   obtain ⟨h1, h2, h3⟩ := splitK_count f _ hd
   have e : Lib.countFrom [32] (f + 1) s = Lib.countFrom [32] f (s.drop ((Lib.index s [32]).toNat + ([32] : List UInt8).length)) + 1 := by
    rw [Lib.countFrom, if_neg hn, Nat.add_comm]
   rw [e]
   refine ⟨by omega, ?_, fun k hk => ?_⟩
   ·rw [Lib.splitK, if_neg hn, List.length_cons, h2]
   ·obtain ⟨k, rfl⟩ : ∃ j, k = j + 1 := ⟨k - 1, by omega⟩
    rw [Lib.splitK, if_neg hn, Lib.splitK, if_neg hn, h3 k (by omega)]
theorem spl_count (s : List UInt8) : spl s = Lib.splitK [32] 0 (Lib.count s [32]) s ∧ (spl s).length = Lib.count s [32] + 1 := by
 obtain ⟨h1, h2, h3⟩ := splitK_count (s.length + 1) s (by omega)
 have : spl s = Lib.splitK [32] 0 (Lib.count s [32]) s := h3 s.length h1
 exact ⟨this, by rw [this]; exact h2⟩
theorem splitK_word : ∀ (k : Nat) (s : List UInt8), ∀ x ∈ Lib.splitK [32] 0 k s, x.length ≤ s.length
 | 0, s, x, h => by simp [Lib.splitK] at h; subst h; exact Nat.le_refl _
 | k + 1, s, x, h => by
  rw [Lib.splitK] at h
  split at h
  ·simp at h; subst h; exact Nat.le_refl _
  ·rcases List.mem_cons.1 h with h | h
   ·rw [h]; simp; omega
   ·have := splitK_word k _ x h
    rw [List.length_drop] at this
    omega
def wcs (l : List (List UInt8)) : List Value := l.map (fun x => .string ⟨x.toArray⟩)
theorem split_at (l : List UInt8) (hl : l.length < 70000) {w : World} (hE : Ev w) : Calls Tryz.prog 52 #[.string ⟨l.toArray⟩, .string ⟨#[32]⟩] w fun e w' => e = .returned (.slice (some ⟨w.heap.size, 0, none⟩) (spl l).length (spl l).length) ∧ Blk w' w.heap.size (wcs (spl l)) 9 ∧ KZ w w' := by
 obtain ⟨m, hm⟩ := hE.ml
 refine (Tryz.strings_Split ⟨l.toArray⟩ ⟨#[32]⟩ m w (by rw [sz]; omega) hm (by decide)).mono ?_
 rintro e w' ⟨rfl, rfl⟩
 obtain ⟨h1, h2⟩ := spl_count l
 have hb := Lib.splitB_data ⟨#[32]⟩ 0 (Lib.count l [32]) ⟨l.toArray⟩
 have hc : (Lib.splitB ⟨#[32]⟩ 0 (Lib.count l [32]) ⟨l.toArray⟩).map Value.string = wcs (spl l) := by
  rw [h1, wcs, ← hb, List.map_map]
  refine List.map_congr_left fun b _ => ?_
  simp only [Function.comp_apply, Lib.mk_data]
 refine ⟨?_, ?_, (Kp.refl _ w).alloc _⟩
 ·rw [h2]
 ·have := Blk.new w (wcs (spl l)) 9
  rw [← hc] at this ⊢
  exact this
theorem spl_length (l : List UInt8) : (spl l).length ≤ l.length + 2 := by
 have := Lib.count_le l [32]
 have := (spl_count l).2
 omega
theorem spl_word (l : List UInt8) : ∀ x ∈ spl l, x.length ≤ l.length := splitK_word _ _
def pickOf (x : List UInt8) : UInt8 := (num x % 256).toNat.toUInt8
theorem pickOf_z (x : List UInt8) : num x % 256 = ((pickOf x).toNat : Int) := by
 unfold pickOf
 simp
 omega
theorem readS_crash1 {d : Int} {r : List UInt8} (h1 : hk d = false) (h2 : hn d = false) (h3 : ht d = false) (hd : decide (d = 12) = true) (hr : r ≠ []) : readS d r = ⟨d, [], [], 0, (spl r).map pickOf⟩ := by
 have hd := of_decide_eq_true hd
 simp only [readS, h1, h2, h3, Bool.false_eq_true, if_false]
 rw [if_pos ⟨hd, hr⟩]
 rfl
theorem ex_tou8z {P : Program} {o : Oper} {a : Act} (w : World) (s d : TypeId) (x : Operand) (ho : o.op = .convert s d x) (hs : (P.underlying s).isSome = true) (hd : P.underlying d = some (.int .u8)) (k : IntKind) (c : Int) (hx : a.eval x = .int k c) :
  (execOp a.eval o).run P w = .ok (.value (.int .u8 (c % 256))) w := by
 unfold execOp
 have hk : P.intKind d = .u8 := by simp [Program.intKind, hd]
 have e := run_convert_int (P := P) w s d k c hs (by rw [hk]; exact hd)
 rw [hk] at e
 have hw : IntKind.u8.wrap c = c % 256 := by rw [IntKind.wrap_u8]
 rw [hw] at e
 simp only [ho, hx, Sem.run_bind, e, Result.andThen_ok, Sem.run_pure]
structure Cw (w w3 : World) (Z B Sb : Nat) (d : Int) (ws : List (List UInt8)) (q : List UInt8) (Ap : Option Addr) (cp : Nat) : Prop where
 aw : Aw w w3 Z B d [] [] 0 q none 0 Ap cp
 ob : Ob (Sb + 1) w3 (.slice Ap q.length cp) (ints q)
 bl : Blk w3 Sb (wcs ws) 9
 lt : B < Sb
variable {w w3 w4 : World} {Z B Sb : Nat} {d : Int} {ws : List (List UInt8)} {q : List UInt8} {Ap : Option Addr} {cp : Nat}
theorem Cw.keep (h : Cw w w3 Z B Sb d ws q Ap cp) (hk : KZ w3 w4) : Cw w w4 Z B Sb d ws q Ap cp := ⟨h.aw.keep hk, h.ob.keep hk, hk.keeps h.bl id, h.lt⟩
theorem Cw.size (h : Cw w w3 Z B Sb d ws q Ap cp) : Sb + 1 ≤ w3.heap.size := blk_lt h.bl
theorem Cw.word (h : Cw w w3 Z B Sb d ws q Ap cp) {j : Nat} {x : List UInt8} (hx : ws[j]? = some x) : w3.cell? ⟨Sb, j, none⟩ = some (.string ⟨x.toArray⟩) := by
 rw [h.bl.cell j, wcs, List.getElem?_map, hx]; rfl
theorem Cw.start {wr w2 : World} (h : Aw w wr Z B d [] [] 0 [] none 0 none 0) (hk : KZ wr w2) (hb : Blk w2 wr.heap.size (wcs ws) 9) : Cw w w2 Z B wr.heap.size d ws [] none 0 := ⟨h.keep hk, Ob.nil _ _, hb, h.av.lt⟩
theorem Cw.start2 {wr w2 : World} (e : wr.heap.size = Sb) (h : Aw w wr Z B d [] [] 0 [] none 0 none 0) (hk : KZ wr w2) (hb : Blk w2 Sb (wcs ws) 9) : Cw w w2 Z B Sb d ws [] none 0 := by
 subst e; exact Cw.start h hk hb
structure Gw (w w4 : World) (Z B Sb : Nat) (d : Int) (ws : List (List UInt8)) (q q2 : List UInt8) (Ap A2 : Option Addr) (cp c2 : Nat) : Prop where
 av : Av w w4 Z B (.int .i64 d) (.string ⟨([] : List UInt8).toArray⟩) (.slice none ([] : List UInt8).length 0) (.int .i64 0) (.slice Ap q.length cp)
 ob : Ob (Sb + 1) w4 (.slice A2 q2.length c2) (ints q2)
 bl : Blk w4 Sb (wcs ws) 9
 lt : B < Sb
theorem Cw.grow (h : Cw w w3 Z B Sb d ws q Ap cp) {A2 : Option Addr} {c2 : Nat} {q2 : List UInt8} (ho : Ob (Sb + 1) w4 (.slice A2 q2.length c2) (ints q2)) (hb : Below (Sb + 1) w3 w4) : Gw w w4 Z B Sb d ws q q2 Ap A2 cp c2 := by
 have h0 := h.aw.av.hz
 have h1 := h.aw.av.ne
 have h2 := h.lt
 refine ⟨⟨?_, (hb.block Z (by omega)).trans h.aw.av.zero, (hb.block B (by omega)).trans h.aw.av.act, h.aw.av.hz, h.aw.av.ne⟩, ho, (hb.block Sb (by omega)).trans h.bl, h.lt⟩
 refine h.aw.av.old.trans ⟨hb.os, hb.tape, hb.output, hb.size, fun k hk => hb.block k (by omega)⟩
theorem Gw.done {w4 w5 : World} {q2 : List UInt8} {A2 : Option Addr} {c2 : Nat} (h : Gw w w4 Z B Sb d ws q q2 Ap A2 cp c2) (ha : Aw w w5 Z B d [] [] 0 q2 none 0 A2 c2) (hk : Kp (· = B) w4 w5) : Cw w w5 Z B Sb d ws q2 A2 c2 := by
 have h2 := h.lt
 refine ⟨ha, ⟨ownsRow_keep h.ob.own (fun b hb hs => hk.block b hs (fun e => by have := h.ob.new b hb; omega)), h.ob.new⟩, ?_, h.lt⟩
 exact hk.keeps h.bl (fun e => by omega)
theorem Gw.op {w4 : World} {q2 : List UInt8} {A2 : Option Addr} {c2 : Nat} (h : Gw w w4 Z B Sb d ws q q2 Ap A2 cp c2) : Ob (B + 1) w4 (.slice A2 q2.length c2) (ints q2) := ⟨h.ob.own, fun b hb => by have := h.ob.new b hb; have := h.lt; omega⟩
theorem ob_slice {b : Nat} {w : World} {v : Value} {l : List UInt8} (h : Ob b w v (ints l)) : ∃ A c, v = .slice A l.length c := by
 obtain ⟨A, c, e, _⟩ := h.bs
 exact ⟨A, c, by rw [e, ints_length]⟩
end Go.Proofs.YtkcechpaeilaeaaGreatDoor
