/- An act that is being read, with its bytes. -/
import Derived.Test.YtkcechpaeilaeaaGreatDoorAv
import Derived.Test.YtkcechpaeilaeaaGreatDoorL9
import Derived.Test.YtkcechpaeilaeaaGreatDoorL10
namespace Go.Proofs.YtkcechpaeilaeaaGreatDoor
open Go.RowKit
set_option linter.unusedVariables false
set_option linter.unusedSimpArgs false
set_option maxRecDepth 20000

structure Aw (w wr : World) (Z B : Nat) (d : Int) (k t : List UInt8) (n : Int) (p : List UInt8) (At : Option Addr) (ct : Nat) (Ap : Option Addr) (cp : Nat) : Prop where
  av : Av w wr Z B (.int .i64 d) (.string ⟨k.toArray⟩) (.slice At t.length ct) (.int .i64 n) (.slice Ap p.length cp)
  bt : Bs wr (.slice At t.length ct) (ints t)
  ft : ∀ b, (Value.slice At t.length ct).ownBlock = some b → B < b
  op : Ob (B + 1) wr (.slice Ap p.length cp) (ints p)
section
variable {w wr wr' : World} {Z B : Nat} {d n : Int} {k t p : List UInt8} {At Ap : Option Addr} {ct cp : Nat}
theorem Aw.start {w1 : World} (hk : Kp (fun _ => False) (w.alloc (.cells Z5.toArray 24)) w1) : Aw w (w1.alloc (.cells Z5.toArray 24)) w.heap.size w1.heap.size 0 [] [] 0 [] none 0 none 0 := by
  have h1 : w.heap.size < w1.heap.size := Nat.lt_of_lt_of_le (by show w.heap.size < (w.heap.push _).size; simp) hk.size
  refine ⟨⟨?_, ?_, Blk.new w1 Z5 24, Nat.le_refl _, h1⟩, ⟨none, 0, rfl, Nat.le_refl _, .inl rfl⟩, (fun b hb => by cases hb), Ob.nil _ _⟩
  · exact (((Kp.refl (fun _ => False) w).alloc _).andThen (hk.andThen ((Kp.refl _ w1).alloc _) (fun _ _ h => h)) (fun _ _ h => h)).below
  · exact Blk.alloc (show Blk w1 w.heap.size Z5 24 from hk.keeps (Blk.new w Z5 24) id) _
theorem Aw.keep (h : Aw w wr Z B d k t n p At ct Ap cp) (hk : Kp (fun _ => False) wr wr') : Aw w wr' Z B d k t n p At ct Ap cp :=
  ⟨h.av.keep hk, Bs.keep h.bt (fun b hb _ => hk.block b hb id), h.ft, h.op.keep hk⟩
theorem Aw.ev (h : Aw w wr Z B d k t n p At ct Ap cp) (hE : Ev w) : Ev wr := h.av.ev hE
theorem bt_set (hb : Bs wr (.slice At t.length ct) (ints t)) (hf : ∀ b, (Value.slice At t.length ct).ownBlock = some b → B < b) (hk : Kp (· = B) wr wr') : Bs wr' (.slice At t.length ct) (ints t) :=
  Bs.keep hb (fun b hb ho => hk.block b hb (fun e => by have := hf b ho; omega))
theorem op_set (h : Ob (B + 1) wr (.slice Ap p.length cp) (ints p)) (hk : Kp (· = B) wr wr') : Ob (B + 1) wr' (.slice Ap p.length cp) (ints p) :=
  ⟨ownsRow_keep h.own (fun b hb hs => hk.block b hs (fun e => by have := h.new b hb; omega)), h.new⟩
section
variable {ops : Array Oper} {rest : List Oper} {o : Oper} {a : Act} {Q : Exit → Act → World → Prop}
theorem wl_setd (hg : o.guard = none) (x y : Operand) (ho : o.op = .store 3 x y) (h : Aw w wr Z B d k t n p At ct Ap cp) (v : Int) (hx : a.eval x = .pointer (some ⟨B, 0, none⟩)) (hy : a.eval y = .int .i64 v)
    (hn : ∀ w2, Aw w w2 Z B v k t n p At ct Ap cp → wpList Tryz.prog ops Q rest (a.put o.dst undef) w2) : wpList Tryz.prog ops Q (o :: rest) a wr :=
  wl_av hg x y ho h.av 0 (.int .i64 v) (by kernel_rfl) hx hy rfl rfl rfl rfl (fun w2 h2 hk => hn w2 ⟨h2, bt_set h.bt h.ft hk, h.ft, op_set h.op hk⟩)
theorem wl_setn (hg : o.guard = none) (x y : Operand) (ho : o.op = .store 3 x y) (h : Aw w wr Z B d k t n p At ct Ap cp) (v : Int) (hx : a.eval x = .pointer (some ⟨B, 3, none⟩)) (hy : a.eval y = .int .i64 v)
    (hn : ∀ w2, Aw w w2 Z B d k t v p At ct Ap cp → wpList Tryz.prog ops Q rest (a.put o.dst undef) w2) : wpList Tryz.prog ops Q (o :: rest) a wr :=
  wl_av hg x y ho h.av 3 (.int .i64 v) (by kernel_rfl) hx hy rfl rfl rfl rfl (fun w2 h2 hk => hn w2 ⟨h2, bt_set h.bt h.ft hk, h.ft, op_set h.op hk⟩)
theorem wl_setk (hg : o.guard = none) (x y : Operand) (ho : o.op = .store 9 x y) (h : Aw w wr Z B d k t n p At ct Ap cp) (v : List UInt8) (hx : a.eval x = .pointer (some ⟨B, 1, none⟩)) (hy : a.eval y = .string ⟨v.toArray⟩)
    (hn : ∀ w2, Aw w w2 Z B d v t n p At ct Ap cp → wpList Tryz.prog ops Q rest (a.put o.dst undef) w2) : wpList Tryz.prog ops Q (o :: rest) a wr :=
  wl_av hg x y ho h.av 1 (.string ⟨v.toArray⟩) (by kernel_rfl) hx hy rfl rfl rfl rfl (fun w2 h2 hk => hn w2 ⟨h2, bt_set h.bt h.ft hk, h.ft, op_set h.op hk⟩)
theorem wl_sett (hg : o.guard = none) (x y : Operand) (ho : o.op = .store 22 x y) (h : Aw w wr Z B d k t n p At ct Ap cp) (At' : Option Addr) (ct' : Nat) (t' : List UInt8) (hx : a.eval x = .pointer (some ⟨B, 2, none⟩)) (hy : a.eval y = .slice At' t'.length ct')
    (hb : Bs wr (.slice At' t'.length ct') (ints t')) (hf : ∀ b, (Value.slice At' t'.length ct').ownBlock = some b → B < b)
    (hn : ∀ w2, Aw w w2 Z B d k t' n p At' ct' Ap cp → wpList Tryz.prog ops Q rest (a.put o.dst undef) w2) : wpList Tryz.prog ops Q (o :: rest) a wr :=
  wl_av hg x y ho h.av 2 (.slice At' t'.length ct') (by kernel_rfl) hx hy rfl rfl rfl rfl (fun w2 h2 hk => hn w2 ⟨h2, bt_set hb hf hk, hf, op_set h.op hk⟩)
theorem wl_setp (hg : o.guard = none) (x y : Operand) (ho : o.op = .store 22 x y) {p0 : List UInt8} {A0 : Option Addr} {c0 : Nat} (hav : Av w wr Z B (.int .i64 d) (.string ⟨k.toArray⟩) (.slice At t.length ct) (.int .i64 n) (.slice A0 p0.length c0)) (hbt : Bs wr (.slice At t.length ct) (ints t)) (hft : ∀ b, (Value.slice At t.length ct).ownBlock = some b → B < b)
    (Ap' : Option Addr) (cp' : Nat) (p' : List UInt8) (hx : a.eval x = .pointer (some ⟨B, 4, none⟩)) (hy : a.eval y = .slice Ap' p'.length cp') (hop : Ob (B + 1) wr (.slice Ap' p'.length cp') (ints p'))
    (hn : ∀ w2, Aw w w2 Z B d k t n p' At ct Ap' cp' → Kp (· = B) wr w2 → wpList Tryz.prog ops Q rest (a.put o.dst undef) w2) : wpList Tryz.prog ops Q (o :: rest) a wr :=
  wl_av hg x y ho hav 4 (.slice Ap' p'.length cp') (by kernel_rfl) hx hy rfl rfl rfl rfl (fun w2 h2 hk => hn w2 ⟨h2, bt_set hbt hft hk, hft, op_set hop hk⟩ hk)
theorem ex_act (x : Operand) (ho : o.op = .load 24 x) (h : Aw w wr Z B d k t n p At ct Ap cp) (hx : a.eval x = .pointer (some ⟨B, 0, none⟩)) :
    (execOp a.eval o).run Tryz.prog wr = .ok (.value (.agg #[.int .i64 d, .string ⟨k.toArray⟩, .slice At t.length ct, .int .i64 n, .slice Ap p.length cp])) wr :=
  ex_load_mid wr 24 x ho B 0 hx [.int .i64 d, .string ⟨k.toArray⟩, .slice At t.length ct, .int .i64 n, .slice Ap p.length cp] h.av.all Tryz.underlying24 rfl (by kernel_rfl)
/-- The result's variable is stored: the act. -/
theorem wl_res (hg : o.guard = none) (x y : Operand) (ho : o.op = .store 24 x y) (h : Aw w wr Z B d k t n p At ct Ap cp) (cs : List Value) (hx : a.eval x = .pointer (some ⟨Z, 0, none⟩)) (hy : a.eval y = .agg cs.toArray) (hl : cs.length = 5) (h1 : ∀ v ∈ cs, v.oneCell' = true)
    (hn : ∀ w2, Blk w2 Z cs 24 → Kp (fun _ => False) w w2 → Bs w2 (.slice At t.length ct) (ints t) → Bs w2 (.slice Ap p.length cp) (ints p) → wpList Tryz.prog ops Q rest (a.put o.dst undef) w2) : wpList Tryz.prog ops Q (o :: rest) a wr := by
  refine wl_store_mid hg 24 x y ho Z 0 24 Z5 cs hx hy h.av.zero (by rw [hl]; decide) (by rw [hl]; kernel_rfl) h1 (fun w2 hb hk hs => hn w2 ?_ ?_ ?_ ?_)
  · have : splice Z5 0 cs = cs := splice_all Z5 cs (by rw [hl]; rfl)
    rw [this] at hb
    exact hb
  · exact Kp.of_below (h.av.old.trans (hk.toBelow h.av.old.size (fun k e => by rw [e]; exact h.av.hz))) _
  · exact Bs.keep h.bt (fun b hb ho => hk.block b hb (fun e => by have := h.ft b ho; have := h.av.ne; omega))
  · exact Bs.keep h.op.bs (fun b hb ho => hk.block b hb (fun e => by have := h.op.new b ho; have := h.av.ne; omega))
end
end
theorem cut_to {l x y : List UInt8} (h1 : wd l = x) (h2 : rs l = y) (hl : l.length < 20000) {w : World} (hE : Ev w) : Calls Tryz.prog 50 #[.string ⟨l.toArray⟩] w fun e w' => e = .returned (.tuple #[.string ⟨x.toArray⟩, .string ⟨y.toArray⟩]) ∧ Kp (fun _ => False) w w' := by
  subst h1 h2; exact cut_at (by omega) hE
theorem num_to {s : List UInt8} {v : Int} (h : num s = v) (hs : s.length < 20000) {w : World} (hE : Ev w) : Calls Tryz.prog 51 #[.string ⟨s.toArray⟩] w fun e w' => (∃ b, e = .returned (.tuple #[.int .i64 v, .bool b])) ∧ Kp (fun _ => False) w w' := by
  subst h
  refine (num_at s (by omega) hE).mono ?_
  rintro e w' ⟨rfl, hk⟩
  exact ⟨⟨_, rfl⟩, hk⟩
theorem uqr_get {w w' : World} {r : Option (List UInt8)} {e : Ending} {v : List UInt8} (hv : r.getD [] = v) (h : UqR w w' r e) : (∃ Aq cq er, e = .returned (.tuple #[.slice Aq v.length cq, .int .i64 er]) ∧ Bs w' (.slice Aq v.length cq) (ints v) ∧ (∀ b, (Value.slice Aq v.length cq).ownBlock = some b → w.heap.size ≤ b)) ∧ Kp (fun _ => False) w w' := by
  subst hv
  obtain ⟨h1, h2⟩ := h
  refine ⟨?_, h2⟩
  cases r with
  | none => exact ⟨none, 0, 270, h1, ⟨none, 0, rfl, Nat.le_refl _, .inl rfl⟩, fun b hb => by cases hb⟩
  | some b =>
    obtain ⟨v, h1, h3⟩ := h1
    have hb := h3.bs
    obtain ⟨Aq, cq, rfl, hc, hr⟩ := hb
    have e : (ints b).length = b.length := ints_length b
    have h4 := h3.bs
    have h5 := h3.new
    rw [e] at h1 h4 h5
    exact ⟨Aq, cq, 0, h1, h4, h5⟩
theorem unq_to (s : List UInt8) (bl : Bool) {v : List UInt8} (hv : (uq bl s).getD [] = v) (hs : s.length < 20000) (w : World) : Calls Tryz.prog 14 #[.string ⟨s.toArray⟩, .bool bl] w fun e w' => (∃ Aq cq er, e = .returned (.tuple #[.slice Aq v.length cq, .int .i64 er]) ∧ Bs w' (.slice Aq v.length cq) (ints v) ∧ (∀ b, (Value.slice Aq v.length cq).ownBlock = some b → w.heap.size ≤ b)) ∧ Kp (fun _ => False) w w' :=
  (unquote_at s bl (by omega)).mono fun e w' h => uqr_get hv h
theorem runq_to (s : List UInt8) (bl : Bool) {v : List UInt8} (hv : (uq bl s).getD [] = v) (hs : s.length < 20000) (w : World) : Calls Tryz.prog 15 #[.string ⟨s.toArray⟩, .bool bl] w fun e w' => (∃ Aq cq er, e = .returned (.tuple #[.slice Aq v.length cq, .int .i64 er]) ∧ Bs w' (.slice Aq v.length cq) (ints v) ∧ (∀ b, (Value.slice Aq v.length cq).ownBlock = some b → w.heap.size ≤ b)) ∧ Kp (fun _ => False) w w' :=
  (runquote_at s bl (by omega)).mono fun e w' h => uqr_get hv h
/-- The three ways of a line that is written again. -/
def Again (a : A) (l : List UInt8) (e : Ending) : Prop :=
  (e = .returned (.tuple #[.string ⟨l.toArray⟩, .int .i64 0]) ∧ may a ∧ line a = l) ∨ (∃ s : List UInt8, e = .returned (.tuple #[.string ⟨s.toArray⟩, .int .i64 0]) ∧ (s != l) = true ∧ ¬ (may a ∧ line a = l)) ∨ (e = .returned (.tuple #[.string ⟨#[]⟩, .int .i64 270]) ∧ ¬ (may a ∧ line a = l))
theorem again_of {a : A} {l : List UInt8} {e : Ending} (h : e = .returned (lineV a)) : Again a l e := by
  subst h
  by_cases hm : may a
  · rw [lineV_yes hm]
    by_cases hl : line a = l
    · exact .inl ⟨by rw [hl], hm, hl⟩
    · exact .inr (.inl ⟨_, rfl, by simpa using hl, fun h => hl h.2⟩)
  · rw [lineV_no hm]
    exact .inr (.inr ⟨rfl, fun h => hm h.1⟩)
theorem line_to (a : A) (l : List UInt8) {w : World} (hE : Ev w) (At : Option Addr) (ct : Nat) (Ap : Option Addr) (cp : Nat) (hT : Bs w (.slice At a.t.length ct) (ints a.t)) (hP : Bs w (.slice Ap a.p.length cp) (ints a.p)) :
    Calls Tryz.prog 9 #[.agg #[.int .i64 a.d, .string ⟨a.k.toArray⟩, .slice At a.t.length ct, .int .i64 a.n, .slice Ap a.p.length cp]] w fun e w' => Again a l e ∧ Kp (fun _ => False) w w' :=
  (line_at a hE At ct Ap cp hT hP).mono fun e w' h => ⟨again_of h.1, h.2⟩
theorem rline_to (a : A) (l : List UInt8) {w : World} (At : Option Addr) (ct : Nat) (Ap : Option Addr) (cp : Nat) (hT : Bs w (.slice At a.t.length ct) (ints a.t)) (hP : Bs w (.slice Ap a.p.length cp) (ints a.p)) :
    Calls Tryz.prog 10 #[.agg #[.int .i64 a.d, .string ⟨a.k.toArray⟩, .slice At a.t.length ct, .int .i64 a.n, .slice Ap a.p.length cp]] w fun e w' => Again a l e ∧ Kp (fun _ => False) w w' :=
  (rline_at a At ct Ap cp hT hP).mono fun e w' h => ⟨again_of h.1, h.2⟩
end Go.Proofs.YtkcechpaeilaeaaGreatDoor
