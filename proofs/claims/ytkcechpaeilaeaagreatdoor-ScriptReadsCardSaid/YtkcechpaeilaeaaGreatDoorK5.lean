/- Joined out of: O1 X0 E2 C1 C2. -/
import Derived.Test.YtkcechpaeilaeaaGreatDoorRows
import Derived.Test.YtkcechpaeilaeaaGreatDoorK4
import Derived.ProofKit
import Derived.OpenShut
import Derived.HandedShaped
import Derived.LaidMore
import Derived.LaidLaws
import Derived.Lib.LaidTab
import Derived.Lib.LaidU8
import Derived.Stop.LaidErr
import Derived.Stop.Joined
import Derived.MakeChecks
import Derived.Shelf.Vars
import Derived.Deep.Slices
import Derived.Deep.Fields
import Derived.WalkKit
import Derived.ShutString
import Derived.ChangeOld
import Derived.Below
import Derived.SizedLaws
import Derived.Lay
set_option linter.unusedVariables false
set_option linter.unusedSimpArgs false
namespace Go.Proofs.YtkcechpaeilaeaaGreatDoor
open Go.ChangeShapes Go.WideShapes Go.ChangeAt Go.RowKit Go.Deep
section
variable {H : Type} {enc : TypeId × Value → H} {w : World} {base : Nat} {spare : Nat → Bool} {held : Bool}
end
/-! ### what the rows list -/
abbrev lays : List (String × DataW Unit) := [("math/bits.deBruijn32tab", Rows.laid_math_bits_deBruijn32tab), ("math/bits.deBruijn64tab", Rows.laid_math_bits_deBruijn64tab), ("internal/strconv.uint64pow10", Rows.laid_internal_strconv_uint64pow10), ("unicode/utf8.acceptRanges", Rows.laid_unicode_utf8_acceptRanges), ("strconv.ErrRange", Rows.laid_strconv_ErrRange), ("strconv.ErrSyntax", Rows.laid_strconv_ErrSyntax), ("unicode/utf8.first", Rows.laid_unicode_utf8_first)]
theorem star : "*" ++ "errors.errorString" = "*errors.errorString" := by decide
theorem row197 (u : TypeId) (h : Tryz.prog.typeName? 3 u = some "*errors.errorString") : u = 197 :=
 typeName_ptr_named (nm := "errors.errorString") (by rw [star]; kernel_rfl) (by kernel_rfl) (by decide) u (by rw [star]; exact h)
theorem ev_of_laid {W : World} (h : laidMetH Tryz.prog lays W) (hs : W.ShapedOpen Tryz.prog) : Ev W := by
 rw [MakeChecks.laidMetH_plain _ _ _ (by kernel_rfl)] at h
 have h3 := h.tail.tail
 have h5 := h3.tail.tail
 refine ⟨?_, ?_, ?_, ?_⟩
 ·exact cell_of_shapedOpen_int (g := 0) (t := 3) hs (of_decide_eq_true (by kernel_rfl)) (zero := #[.int .i64 0]) (by kernel_rfl) rfl (by kernel_rfl) (by kernel_rfl) U3
 ·exact Lib.tabIs_of_head (g := 3) (by kernel_rfl) (by kernel_rfl) Tryz.underlying176 Tryz.underlying143 (by kernel_rfl) (by kernel_rfl) h3
 ·obtain ⟨a, _, hv, _⟩ := laid_sentinel h5.tail (g := 4) (by kernel_rfl) (by kernel_rfl) Tryz.underlying70 row197 Tryz.underlying197 Tryz.underlying199 rfl rfl U9 (by kernel_rfl) (by kernel_rfl)
  exact ⟨_, _, hv⟩
 ·obtain ⟨a, _, hv, _⟩ := laid_sentinel h5 (g := 5) (by kernel_rfl) (by kernel_rfl) Tryz.underlying70 row197 Tryz.underlying197 Tryz.underlying199 rfl rfl U9 (by kernel_rfl) (by kernel_rfl)
  exact ⟨_, _, hv⟩
end Go.Proofs.YtkcechpaeilaeaaGreatDoor
namespace Go.Proofs.YtkcechpaeilaeaaGreatDoor
open Go.ChangeShapes Go.WideShapes Go.ChangeAt Go.RowKit
theorem own : ownKnob Tryz.prog.godebug = none := by kernel_rfl
theorem laidOut : laidOutB Tryz.prog = true := by kernel_rfl
theorem lays_met (os : _root_.Go.Os) (args : Array Value) : laidMetH Tryz.prog lays ((World.laidAll Tryz.prog os lays).forCall (fun _ _ => 0) ⟨#[], args, []⟩).memory := by
 rw [MakeChecks.laidMetH_plain _ _ _ (by kernel_rfl)]
 exact laidMet_laidAll _ (by kernel_rfl) (by kernel_rfl)
theorem lays_shaped (os : _root_.Go.Os) (args : Array Value) : ((World.laidAll Tryz.prog os lays).forCall (fun _ _ => 0) ⟨#[], args, []⟩).Shaped Tryz.prog := World.shaped_of_ZipB (by kernel_rfl) (by kernel_rfl)
theorem returns_shaped {H : Type} {enc : TypeId × Value → H} {a : Assume} {C : Checked} {os : _root_.Go.Os} {f : FuncId} {fn : Func} {s : ChangeSpec} {conds : List PathCond} {apart fresh handsOn again : Bool} {X : World → Array Value → Prop}
  (hX : ∀ (w w' : World) (args : Array Value), w.heap = w'.heap → X w args → X w' args)
  (own : ownKnob C.prog.godebug = none) (started : os.Started) (noInit : C.prog.inits.idxOf? f = none) (hfn : C.prog.funcs[f]? = some fn)
  (witness : ∃ (w : World) (tape : Tape) (i : Input), w.os = os ∧ (w.forCall tape i).Shaped C.prog ∧ i.vars = [] ∧ Input.okWide C.prog (w.forCall tape i) .any w.heap.size f i ∧
   ((s.pre enc C.prog fn conds apart (w.forCall tape i).memory i.args ∧ X (w.forCall tape i).memory i.args) ∧ sizedMet enc C.prog fn (OpenSpec.ofChange s) apart (w.forCall tape i).memory i.args) ∧ a.holds C.prog (lone (Frame.enter C.prog f i.args .normal) [] (w.forCall tape i)))
  (contract : ∀ (W : World) (base : Nat) (args : Array Value) (ds gs : List (DataW H)) (before : List MemPlace),
   (∀ (j : Nat) t v, fn.params[j]? = some t → args[j]? = some v → Value.okWide C.prog W .any base t v) →
   DataW.Whole enc C.prog fn.params.toList s.vars apart W args.toList ds gs before → X W args → W.ShapedOpen C.prog →
   Calls C.prog f args W fun e W' => ∃ v, e = .returned v ∧ s.post enc C.prog fn apart fresh handsOn again W args v W') :
  ReturnsInHanded a C os f .any (fun w args => (s.pre enc C.prog fn conds apart w args ∧ X w args) ∧ sizedMet enc C.prog fn (OpenSpec.ofChange s) apart w args) (s.post enc C.prog fn apart fresh handsOn again) := by
 refine returnsInHanded_of_calls own started noInit witness ?_
 intro w tape i _ hsh _ hok hpre hholds
 obtain ⟨_, _, _, fn', hfn', _, _, _, _, hval⟩ := hok
 have e : fn' = fn := Option.some.inj (hfn'.symm.trans hfn)
 subst e
 obtain ⟨⟨⟨ds, gs, before, hw, hc⟩, hx⟩, hz⟩ := hpre
 have hw' := DataW.Whole.of_heap (w' := w.forCall tape i) (by rfl) hw
 refine (contract (w.forCall tape i) w.heap.size i.args ds gs before hval hw' (hX _ _ _ (by rfl) hx) hsh).mono fun e W' ⟨v, he, hp⟩ => ?_
 subst he
 exact ChangeSpec.post_blind hp
end Go.Proofs.YtkcechpaeilaeaaGreatDoor
namespace Go.Proofs.YtkcechpaeilaeaaGreatDoor
open Go.RowKit
theorem bdAt_keep {b : Nat} {p : Value} {bs : List Value} {w w' : World} (h : Lib.BuilderAtF 64 5 b b p bs w) (hk : KZ w w') : Lib.BuilderAtF 64 5 b b p bs w' := by
 obtain ⟨hB, v, hb, hown, hne⟩ := h
 refine ⟨hB, v, hk.keeps hb id, ⟨hown.1, ?_⟩, hne⟩
 rcases hown.2 with h | ⟨g, cap, cur, fz, hv, hg, hh, r⟩
 ·exact .inl h
 ·exact .inr ⟨g, cap, cur, fz, hv, hg, hk.keeps hh id, r⟩
theorem Bd.keep {w w' : World} {b : Nat} {l : List UInt8} (h : Bd w b l) (hk : KZ w w') : Bd w' b l := h.elim (fun h => .inl (bdAt_keep h hk)) (fun h => .inr (bdAt_keep h hk))
theorem ex_scatv {P : Program} {o : Oper} {a : Act} (w : World) (t t2 : TypeId) (x y : Operand) (ho : o.op = .binOp .add t x y t2) (p q r : List UInt8) (hl : p.length + q.length ≤ 9000000000000000000) (hr : r = p ++ q)
  (hx : a.eval x = .string ⟨p.toArray⟩) (hy : a.eval y = .string ⟨q.toArray⟩) : (execOp a.eval o).run P w = .ok (.value (.string ⟨r.toArray⟩)) w := by
 subst hr; exact ex_scat w t t2 x y ho p q hl hx hy
theorem rname_d {d : Int} (h1 : 1 ≤ d) (h2 : d ≤ 14) (w : World) : Calls Tryz.prog 45 #[.int .i64 d] w fun e w' => e = .returned (.string ⟨(nm d).toArray⟩) ∧ KZ w w' := by
 obtain ⟨k, rfl⟩ : ∃ k : Nat, d = k := ⟨d.toNat, by omega⟩
 exact rname_at k (by omega) w
theorem number_z {z : Int} (h0 : 0 ≤ z) (h1 : z < 1000000000) (w : World) : Calls Tryz.prog 48 #[.int .i64 z] w fun e w' => e = .returned (.string ⟨(Lib.itoa z).toArray⟩) ∧ KZ w w' := by
 obtain ⟨k, rfl⟩ : ∃ k : Nat, z = k := ⟨z.toNat, by omega⟩
 exact number_at k (by omega) w
theorem nm_len (d : Int) : (nm d).length ≤ 7 := by
 unfold nm
 rw [List.getD_eq_getElem?_getD]
 have : ∀ x ∈ nms, x.length ≤ 7 := by decide
 cases h : nms[d.toNat]? with
 | none => simp
 | some x => exact this x (List.mem_of_getElem? h)
theorem pk_take {p : List UInt8} {j : Nat} {c : UInt8} (h : p[j]? = some c) : pk (p.take (j + 1)) = pk (p.take j) ++ (32 :: Lib.itoa (c.toNat : Int)) := by
 obtain ⟨h1, rfl⟩ := List.getElem?_eq_some_iff.1 h
 unfold pk
 rw [List.take_succ_eq_append_getElem h1, List.flatMap_append]
 simp only [List.flatMap_cons, List.flatMap_nil, List.append_nil]
def lineV (a : A) : Value := if may a then .tuple #[.string ⟨(line a).toArray⟩, .int .i64 0] else .tuple #[.string ⟨#[]⟩, .int .i64 270]
theorem lineV_yes {a : A} (h : may a) : lineV a = .tuple #[.string ⟨(line a).toArray⟩, .int .i64 0] := if_pos h
theorem lineV_no {a : A} (h : ¬ may a) : lineV a = .tuple #[.string ⟨#[]⟩, .int .i64 270] := if_neg h
structure Lx (w1 : World) (B : Nat) (wr : World) (l : List UInt8) (c : Nat) : Prop where
 bd : Bd wr B l
 below : Below B w1 wr
 len : l.length ≤ c
theorem Lx.fresh (w : World) : Lx w w.heap.size (w.alloc (.cells #[.pointer none, .slice none 0 0] 64)) [] 0 := ⟨Bd.fresh w, (Below.refl _ w).alloc (Nat.le_refl _) _, Nat.le_refl _⟩
theorem Lx.keep {w1 wr wr' : World} {B : Nat} {l : List UInt8} {c : Nat} (h : Lx w1 B wr l c) (hk : KZ wr wr') : Lx w1 B wr' l c :=
 ⟨h.bd.keep hk, h.below.trans (hk.toBelow (Nat.le_of_lt h.bd.lt) (fun _ h => h.elim)), h.len⟩
theorem Lx.le {w1 wr : World} {B : Nat} {l : List UInt8} {c c' : Nat} (h : Lx w1 B wr l c) (hc : c ≤ c') : Lx w1 B wr l c' := ⟨h.bd, h.below, Nat.le_trans h.len hc⟩
theorem lx_str {w1 wr : World} {B : Nat} {l : List UInt8} {c : Nat} (h : Lx w1 B wr l c) (s : List UInt8) (g : Nat) (hs : s.length ≤ g) (hg : g ≤ 100000) (hc : c ≤ 900000000) :
  Calls Tryz.prog 35 #[.pointer (some ⟨B, 0, none⟩), .string ⟨s.toArray⟩] wr fun e w' => (∃ x, e = .returned (.tuple #[x, .nilIface])) ∧ Lx w1 B w' (l ++ s) (c + g) := by
 refine (wstr_at h.bd ⟨s.toArray⟩ (by have := h.len; omega) (by rw [sz]; omega)).mono ?_
 rintro e w' ⟨he, h1, h2⟩
 exact ⟨he, h1, h.below.trans h2.below, by have := h.len; rw [List.length_append]; omega⟩
theorem lx_byte {w1 wr : World} {B : Nat} {l : List UInt8} {c : Nat} (h : Lx w1 B wr l c) (n : Int) (b : UInt8) (hn : n = (b.toNat : Int)) (hc : c ≤ 900000000) :
  Calls Tryz.prog 59 #[.pointer (some ⟨B, 0, none⟩), .int .u8 n] wr fun e w' => e = .returned .nilIface ∧ Lx w1 B w' (l ++ [b]) (c + 1) := by
 subst hn
 refine (wbyte_at h.bd b (by have := h.len; omega)).mono ?_
 rintro e w' ⟨he, h1, h2⟩
 exact ⟨he, h1, h.below.trans h2.below, by have := h.len; rw [List.length_append]; simp; omega⟩
theorem lx_end {w1 wr : World} {B : Nat} {l : List UInt8} {c : Nat} (h : Lx w1 B wr l c) :
  Calls Tryz.prog 36 #[.pointer (some ⟨B, 0, none⟩)] wr fun e w' => e = .returned (.string ⟨l.toArray⟩) ∧ Lx w1 B w' l c := by
 refine (bstr_at h.bd).mono ?_
 rintro e w' ⟨he, h1, h2⟩
 exact ⟨he, h1, h.below.trans h2.below, h.len⟩
theorem Lx.fa {w1 wr : World} {B : Nat} {l : List UInt8} {c b : Nat} {v0 v1 v2 v3 v4 : Value} (h : Lx w1 B wr l c) (f : Fa w1 b v0 v1 v2 v3 v4) (hb : b < B) : Fa wr b v0 v1 v2 v3 v4 :=
 ⟨bsee h.below f.c0 hb, bsee h.below f.c1 hb, bsee h.below f.c2 hb, bsee h.below f.c3 hb, bsee h.below f.c4 hb⟩
theorem ev_below {w w' : World} (h : Ev w) (hb : Below w.heap.size w w') : Ev w' := h.keep (Kp.of_below hb _)
theorem Lx.bs {w1 wr : World} {B : Nat} {l : List UInt8} {c : Nat} (h : Lx w1 B wr l c) (hB : w1.heap.size = B) {v : Value} {x : List Int} (hx : Bs w1 v x) : Bs wr v x := by
 subst hB
 exact Bs.keep hx (fun b hb _ => h.below.block b hb)
theorem Lx.ev {w1 wr : World} {B : Nat} {l : List UInt8} {c : Nat} (h : Lx w1 B wr l c) (hB : w1.heap.size = B) (hx : Ev w1) : Ev wr := by
 subst hB
 exact ev_below hx h.below
end Go.Proofs.YtkcechpaeilaeaaGreatDoor
namespace Go.Proofs.YtkcechpaeilaeaaGreatDoor
open Go.RowKit
set_option maxRecDepth 100000
theorem wd_split (l : List UInt8) : ((32 : UInt8) ∉ l ∧ wd l = l ∧ rs l = []) ∨ ((32 : UInt8) ∉ wd l ∧ l = wd l ++ 32 :: rs l) := by
 induction l with
 | nil => exact .inl ⟨by simp, rfl, rfl⟩
 | cons c r ih =>
  by_cases hc : c = 32
  ·subst hc
   exact .inr ⟨by simp [wd], by simp [wd, rs]⟩
  ·have e1 : wd (c :: r) = c :: wd r := by
    unfold wd
    rw [List.takeWhile_cons, if_pos (by simpa using hc)]
   have e2 : rs (c :: r) = rs r := by
    unfold rs
    rw [List.dropWhile_cons, if_pos (by simpa using hc)]
   rcases ih with ⟨h1, h2, h3⟩ | ⟨h1, h2⟩
   ·refine .inl ⟨by simp [h1, Ne.symm hc], ?_, ?_⟩
    ·rw [e1, h2]
    ·rw [e2, h3]
   ·refine .inr ⟨?_, ?_⟩
    ·rw [e1]
     simp [h1, Ne.symm hc]
    ·rw [e1, e2, List.cons_append, ← h2]
theorem cut_blank (l : List UInt8) : (Lib.cut l [32]).1 = wd l ∧ (Lib.cut l [32]).2.1 = rs l := by
 rcases wd_split l with ⟨h1, h2, h3⟩ | ⟨h1, h2⟩
 ·have := index_no_blank l h1
  unfold Lib.cut
  rw [this, if_neg (by omega), h2, h3]
  exact ⟨rfl, rfl⟩
 ·have := index_blank (wd l) (rs l) h1
  rw [← h2] at this
  unfold Lib.cut
  rw [this, if_pos (by omega)]
  show l.take _ = _ ∧ l.drop _ = _
  generalize wd l = x at *
  generalize rs l = y at *
  subst h2
  simp only [Int.toNat_natCast, List.take_left, List.length_cons, List.length_nil, true_and]
  rw [List.drop_append]
  simp
theorem wd_length (l : List UInt8) : (wd l).length ≤ l.length := (List.takeWhile_sublist _).length_le
theorem rs_length (l : List UInt8) : (rs l).length ≤ l.length := by
 unfold rs
 rw [List.length_tail]
 have : (l.dropWhile (· != 32)).length ≤ l.length := (List.dropWhile_sublist _).length_le
 omega
set_option maxHeartbeats 1000000 in
theorem cut_at {l : List UInt8} (hl : l.length < 4294967281) {w : World} (hE : Ev w) : Calls Tryz.prog 50 #[.string ⟨l.toArray⟩] w fun e w' => e = .returned (.tuple #[.string ⟨(wd l).toArray⟩, .string ⟨(rs l).toArray⟩]) ∧ KZ w w' := by
 obtain ⟨m, hm⟩ := hE.ml
 have hc : Hd (Calls Tryz.prog 64 #[.string ⟨l.toArray⟩, .string ⟨#[32]⟩] w fun e w' => (∃ b, e = .returned (.tuple #[.string ⟨(wd l).toArray⟩, .string ⟨(rs l).toArray⟩, .bool b])) ∧ KZ w w') := ⟨by
  refine (Tryz.strings_Cut ⟨l.toArray⟩ ⟨#[32]⟩ m w (by rw [sz]; exact hl) hm).mono ?_
  rintro e w' ⟨rfl, n, rfl⟩
  obtain ⟨h1, h2⟩ := cut_blank l
  refine ⟨⟨(Lib.cut l [32]).2.2, ?_⟩, (Kp.refl _ w).drewN n⟩
  rw [← h1, ← h2]⟩
 clear hE hm hl
 go_enter Tryz.func50, Tryz.ntmps50
 go_wp2_with (go_at_call 64; refine hc.out.mono ?_; rintro e w1 ⟨⟨b, rfl⟩, hk1⟩; have hk1 := Hd.mk hk1; dsimp only)
 go_ret2
 exact ⟨rfl, hk1.out⟩
def okS (s : List UInt8) : Bool := match Lib.atoiAll s with
 | .ok v => (Lib.itoa v == s) && decide (0 ≤ v)
 | _ => false
theorem atoi_range {s : List UInt8} {v : Int} (h : Lib.atoiAll s = .ok v) : -9223372036854775808 ≤ v ∧ v ≤ 9223372036854775807 := by
 unfold Lib.atoiAll at h
 split at h
 ·cases h
 ·rename_i c r
  simp only at h
  split at h
  ·cases h
  ·cases h
  ·split at h
   ·cases h
   ·split at h
    ·cases h
    ·rename_i h1 h2
     injection h with h
     split at h <;> rename_i h3
     ·have : ¬ (9223372036854775808 < _) := fun e => h2 ⟨h3, e⟩
      omega
     ·have : ¬ (9223372036854775808 ≤ _) := fun e => h1 ⟨h3, e⟩
      omega
theorem kp_bytesWorld (w : World) (t : ByteArray) : KZ w (Lib.bytesWorld w 5 t) := by
 refine ⟨rfl, rfl, rfl, ?_, fun k hk _ => Lib.bytesWorld_at_old w 5 t k hk⟩
 rw [Lib.bytesWorld_size]
 omega
theorem atoi_yes (s : List UInt8) (hs : s.length < 4294967281) {v : Int} (h : Lib.atoiAll s = .ok v) (w : World) : Calls Tryz.prog 83 #[.string ⟨s.toArray⟩] w fun e w' => e = .returned (.tuple #[.int .i64 v, .nilIface]) ∧ KZ w w' := by
 refine (Tryz.strconv_Atoi_ok ⟨s.toArray⟩ (by rw [sz]; omega) v h w).mono ?_
 rintro e w' ⟨rfl, hw⟩
 refine ⟨rfl, ?_⟩
 rcases hw with rfl | ⟨t, rfl⟩
 ·exact Kp.refl _ _
 ·exact kp_bytesWorld w t
theorem atoi_no (s : List UInt8) (hs : s.length < 4294967281) (h : ∀ v, Lib.atoiAll s ≠ .ok v) {w : World} (hE : Ev w) : Calls Tryz.prog 83 #[.string ⟨s.toArray⟩] w fun e w' => (∃ pt, e = .returned (.tuple #[.int .i64 (num s), .iface 156 (.pointer (some pt))])) ∧ KZ w w' := by
 cases h2 : Lib.atoiAll s with
 | ok v => exact absurd h2 (h v)
 | range =>
  obtain ⟨tp, p, hv⟩ := hE.rng
  refine (Tryz.strconv_Atoi_range_var ⟨s.toArray⟩ (by rw [sz]; omega) h2 tp p w hv).mono ?_
  rintro e w' ⟨N, rfl, _, _, hb⟩
  exact ⟨⟨_, by rw [num, h2]⟩, Kp.of_below hb _⟩
 | _ =>
  obtain ⟨tp, p, hv⟩ := hE.syn
  refine (Tryz.strconv_Atoi_syntax_var ⟨s.toArray⟩ (by rw [sz]; omega) h2 tp p w hv).mono ?_
  rintro e w' ⟨N, rfl, _, _, hb⟩
  exact ⟨⟨_, by rw [num, h2]⟩, Kp.of_below hb _⟩
set_option maxHeartbeats 1000000 in
theorem num_at (s : List UInt8) (hs : s.length < 4294967281) {w : World} (hE : Ev w) : Calls Tryz.prog 51 #[.string ⟨s.toArray⟩] w fun e w' => e = .returned (.tuple #[.int .i64 (num s), .bool (okS s)]) ∧ KZ w w' := by
 by_cases h : ∃ v, Lib.atoiAll s = .ok v
 ·obtain ⟨v, h⟩ := h
  have hc := Hd.mk (atoi_yes s hs h w)
  have hr := atoi_range h
  have e1 : num s = v := by rw [num, h]
  have e2 : okS s = ((Lib.itoa v == s) && decide (0 ≤ v)) := by rw [okS, h]
  rw [e1, e2]
  have hE := Hd.mk hE
  have hr := Hd.mk hr
  clear hs h e1 e2
  obtain ⟨b, hb⟩ : ∃ b, Hd ((Lib.itoa v == s) = b) := ⟨_, ⟨rfl⟩⟩
  rw [hb.out]
  cases b
  all_goals go_enter Tryz.func51, Tryz.ntmps51
  all_goals go_wp2_with (first | (go_at_call 83; refine hc.out.mono ?_; rintro e w1 ⟨rfl, hk1⟩; have hE1 := Hd.mk (hE.out.keep hk1); have hk1 := Hd.mk hk1; dsimp only) | (go_at_call 41; refine (itoa_at v hr.out.1 hr.out.2 hE1.out).mono ?_; rintro e w2 ⟨rfl, hk2⟩; have hk2 := Hd.mk hk2; dsimp only) | ((with_reducible refine wl_runG ?hw (ex_seql _ 9 9 (.tmp 16) (.tmp 17) rfl (Lib.itoa v) s _ hb.out rfl rfl) ?_); (case hw => rfl); simp only [Act.put, uA, uB, uC]))
  ·go_ret2
   exact ⟨rfl, hk1.out.th hk2.out⟩
  ·go_ret2
   exact ⟨rfl, hk1.out.th hk2.out⟩
 ·have hc := Hd.mk (atoi_no s hs (fun v hv => h ⟨v, hv⟩) hE)
  have e2 : okS s = false := by
   unfold okS
   cases h2 : Lib.atoiAll s with
   | ok v => exact absurd ⟨v, h2⟩ h
   | _ => rfl
  rw [e2]
  clear h hs hE e2
  go_enter Tryz.func51, Tryz.ntmps51
  go_wp2_with (go_at_call 83; refine hc.out.mono ?_; rintro e w1 ⟨⟨pt, rfl⟩, hk1⟩; have hk1 := Hd.mk hk1; dsimp only)
  go_ret2
  exact ⟨rfl, hk1.out⟩
theorem wd_at {l : List UInt8} {k : Nat} (h : (32 : UInt8) ∉ l.take k) (hc : l[k]? = some 32) : wd l = l.take k ∧ rs l = l.drop (k + 1) := by
 obtain ⟨h1, e⟩ := List.getElem?_eq_some_iff.1 hc
 have e2 : l = l.take k ++ 32 :: l.drop (k + 1) := by
  conv => lhs; rw [← List.take_append_drop k l, List.drop_eq_getElem_cons h1, e]
 have := wd_hit h (l.drop (k + 1))
 rw [← e2] at this
 exact this
theorem nb_succ {l : List UInt8} {k : Nat} {c : UInt8} (h : (32 : UInt8) ∉ l.take k) (hc : l[k]? = some c) (hne : c ≠ 32) : (32 : UInt8) ∉ l.take (k + 1) := by
 obtain ⟨h1, rfl⟩ := List.getElem?_eq_some_iff.1 hc
 rw [List.take_succ_eq_append_getElem h1]
 intro hm
 rcases List.mem_append.1 hm with hm | hm
 ·exact h hm
 ·exact hne (List.mem_singleton.1 hm).symm
set_option maxHeartbeats 1000000 in
theorem rcut_at (l : List UInt8) (hl : l.length < 4294967281) (w : World) : Calls Tryz.prog 53 #[.string ⟨l.toArray⟩] w fun e w' => (∃ b, e = .returned (.tuple #[.string ⟨(wd l).toArray⟩, .string ⟨(rs l).toArray⟩, .bool b])) ∧ KZ w w' := by
 have hL : (l.length : Int) < 4294967281 := by omega
 clear hl
 go_enter Tryz.func53, Tryz.ntmps53
 go_wp2_with fail
 go_loopw [5] (fun v5 wr => ∃ k : Nat, v5 = .int .i64 k ∧ (k : Int) ≤ (l.length : Int) ∧ Hd ((32 : UInt8) ∉ l.take k) ∧ w = wr) (fun v5 _ => l.length - (intOf v5).toNat)
 case atStart => exact ⟨0, rfl, by omega, ⟨by simp⟩, rfl⟩
 case round =>
  obtain ⟨k, rfl, hk, hn, rfl⟩ := hrel
  by_cases hlt : k < l.length
  ·have hlt2 : (k : Int) < (l.length : Int) := by omega
   obtain ⟨c, hck⟩ : ∃ c, Hd (l[k]? = some c) := ⟨_, ⟨List.getElem?_eq_getElem hlt⟩⟩
   by_cases h32 : c = 32
   ·subst h32
    have hw := Hd.mk (wd_at hn.out hck.out)
    go_wp2_with (first | (with_reducible refine wl_run rfl (ex_sidx _ 9 _ _ rfl rfl .i64 l k 32 hck.out _ rfl rfl rfl) ?_) | (with_reducible refine wl_run rfl (ex_slen _ 9 _ rfl rfl l rfl) ?_))
    have hS : Hd ((fun W : World => True) w.drew) := ⟨trivial⟩
    refine rn_begin (fun W : World => True) (List.range 12) (by kernel_rfl) ?_
    refine rnA 0 16 (.string ⟨(l).toArray⟩) (rnM rfl rfl) hS.out ?_
    refine rnA 1 17 (.int .i64 ((k : Nat) : Int)) (rnM rfl rfl) hS.out ?_
    refine rnA 2 18 (.string ⟨(l.take k).toArray⟩) (fun W hW => ex_sto W 9 _ _ rfl U9 l .i64 k (by first | omega | (simp; done)) rfl rfl) hS.out ?_
    simp only [Act.put, uA, uB, uC]
    refine rnA 3 19 (.string ⟨(l).toArray⟩) (rnM rfl rfl) hS.out ?_
    refine rnA 4 20 (.int .i64 ((k : Nat) : Int)) (rnM rfl rfl) hS.out ?_
    refine rnA 5 21 (.int .i64 ((k + 1 : Nat) : Int)) (fun W hW => er_add W 3 _ _ _ rfl k 1 (k + 1) (by first | rfl | omega) rfl rfl (by omega)) hS.out ?_
    simp only [Act.put, uA, uB, uC]
    refine rnA 6 22 (.string ⟨(l.drop (k + 1)).toArray⟩) (fun W hW => ex_sfrom W 9 _ _ rfl U9 l .i64 (k + 1) (by first | omega | (simp; done)) rfl rfl) hS.out ?_
    refine rnA 7 2 (.string ⟨(l.take k).toArray⟩) (fun W hW => ex_assign W _ _ rfl rfl) hS.out ?_
    refine rnA 8 3 (.string ⟨(l.drop (k + 1)).toArray⟩) (fun W hW => ex_assign W _ _ rfl rfl) hS.out ?_
    simp only [Act.put, uA, uB, uC]
    refine rnA 9 4 (.bool true) (fun W hW => ex_assign W _ _ rfl rfl) hS.out ?_
    simp only [Act.put, uA, uB, uC]
    refine rn_done (by kernel_rfl) ?_ _
    clear hS
    go_wp2_with fail
    go_ret3
    rw [hw.out.1, hw.out.2]
    exact ⟨⟨_, rfl⟩, (Kp.refl _ w).drew⟩
   ·have hcn : Hd (decide ((c.toNat : Int) = 32) = false) := ⟨decide_eq_false (fun e => h32 (UInt8.toNat_inj.1 (show c.toNat = 32 by omega)))⟩
    have hn2 := Hd.mk (nb_succ hn.out hck.out h32)
    clear h32
    go_wp2_with (first | (with_reducible refine wl_run rfl (ex_sidx _ 9 _ _ rfl rfl .i64 l k c hck.out _ rfl rfl rfl) ?_) | (with_reducible refine wl_run rfl (ex_slen _ 9 _ rfl rfl l rfl) ?_) | ((with_reducible refine wl_run rfl (ex_eql _ 5 5 (.tmp 14) (.const (.int .u8 32)) rfl .u8 (c.toNat : Int) 32 rfl rfl false hcn.out) ?_); simp only [Act.put, uA, uB, uC]))
    exact ⟨⟨k + 1, by go_num, by omega, hn2, trivial⟩, by simp [intOf]; omega⟩
  ·have hk2 : (k : Int) = l.length := by omega
   have hw : Hd (wd l = l ∧ rs l = []) := ⟨wd_miss (by have := hn.out; rw [List.take_of_length_le (by omega)] at this; exact this)⟩
   clear hlt
   go_wp2_with (with_reducible refine wl_run rfl (ex_slen _ 9 _ rfl rfl l rfl) ?_)
   go_ret3
   rw [hw.out.1, hw.out.2]
   exact ⟨⟨_, rfl⟩, Kp.refl _ w⟩
/-! ### digits -/
theorem digstep_no {l : List UInt8} {k : Nat} {c : UInt8} (h : l[k]? = some c) (hc : c.toNat < 48 ∨ 57 < c.toNat) (n : Nat) : digstep (l.drop k) n = -1 := by
 obtain ⟨h1, rfl⟩ := List.getElem?_eq_some_iff.1 h
 rw [List.drop_eq_getElem_cons h1, digstep, if_neg (by omega)]
theorem digstep_yes {l : List UInt8} {k : Nat} {c : UInt8} (h : l[k]? = some c) (hc : 48 ≤ c.toNat ∧ c.toNat ≤ 57) (n : Nat) : digstep (l.drop k) n = digstep (l.drop (k + 1)) (n * 10 + (c.toNat - 48)) := by
 obtain ⟨h1, rfl⟩ := List.getElem?_eq_some_iff.1 h
 rw [List.drop_eq_getElem_cons h1, digstep, if_pos hc]
def digbad (l : List UInt8) : Prop := l = [] ∨ 9 < l.length ∨ (1 < l.length ∧ l.head? = some 48)
theorem dig_bad {l : List UInt8} (h : digbad l) : dig l = -1 := if_pos h
theorem dig_good {l : List UInt8} (h : ¬ digbad l) : dig l = digstep l 0 := if_neg h
set_option maxHeartbeats 1000000 in
theorem dig_at (l : List UInt8) (hl : l.length < 4294967281) (w : World) : Calls Tryz.prog 54 #[.string ⟨l.toArray⟩] w fun e w' => e = .returned (.int .i64 (dig l)) ∧ w = w' := by
 have hL : (l.length : Int) < 4294967281 := by omega
 clear hl
 by_cases h0 : l.length = 0
 ·have e : l = [] := List.eq_nil_of_length_eq_zero h0
  subst e
  go_enter Tryz.func54, Tryz.ntmps54
  go_wp2_with fail
  go_ret
  exact ⟨rfl, rfl⟩
 ·obtain ⟨c0, hc0⟩ : ∃ c, Hd (l[0]? = some c) := ⟨_, ⟨List.getElem?_eq_getElem (by omega)⟩⟩
  have d0 : Hd (decide ((l.length : Int) = 0) = false) := ⟨decide_eq_false (by omega)⟩
  obtain ⟨x9, e9⟩ : ∃ b, Hd (decide ((9 : Int) < (l.length : Int)) = b) := ⟨_, ⟨rfl⟩⟩
  obtain ⟨x1, e1⟩ : ∃ b, Hd (decide ((1 : Int) < (l.length : Int)) = b) := ⟨_, ⟨rfl⟩⟩
  obtain ⟨x0, e0⟩ : ∃ b, Hd (decide ((c0.toNat : Int) = 48) = b) := ⟨_, ⟨rfl⟩⟩
  have hne : Hd (l ≠ []) := ⟨fun e => h0 (by rw [e]; rfl)⟩
  have hh : Hd (l.head? = some c0) := ⟨by rw [List.head?_eq_getElem?]; exact hc0.out⟩
  clear h0
  cases x9
  ·cases x1
   ·have hg : Hd (dig l = digstep l 0) := ⟨dig_good (fun h => h.elim (fun h => hne.out h) (fun h => h.elim (fun h => by have := of_decide_eq_false e9.out; omega) (fun h => by have := of_decide_eq_false e1.out; have := h.1; omega)))⟩
    rw [hg.out]
    have l9 : (l.length : Int) ≤ 9 := by
     have := of_decide_eq_false e9.out
     omega
    go_enter Tryz.func54, Tryz.ntmps54
    go_wp2_with (first | (with_reducible refine wl_run rfl (ex_slen _ 9 _ rfl rfl l rfl) ?_) | ((with_reducible refine wl_runG ?hw (ex_slen _ 9 _ rfl rfl l rfl) ?_); (case hw => rfl)) | ((with_reducible refine wl_run rfl (ex_eql _ 3 3 (.tmp 6) (.const (.int .i64 0)) rfl .i64 (l.length : Int) 0 rfl rfl _ d0.out) ?_); simp only [Act.put, uA, uB, uC]) | ((with_reducible refine wl_runG ?hw (ex_gtr _ 3 3 (.tmp 10) (.const (.int .i64 9)) rfl .i64 (l.length : Int) 9 rfl rfl _ e9.out) ?_); (case hw => rfl); simp only [Act.put, uA, uB, uC]) | ((with_reducible refine wl_runG ?hw (ex_gtr _ 3 3 (.tmp 15) (.const (.int .i64 1)) rfl .i64 (l.length : Int) 1 rfl rfl _ e1.out) ?_); (case hw => rfl); simp only [Act.put, uA, uB, uC]))
    go_loopw [3, 4] (fun v3 v4 wr => ∃ k n : Nat, v3 = .int .i64 n ∧ v4 = .int .i64 k ∧ (k : Int) ≤ (l.length : Int) ∧ Hd (n + 1 ≤ 10 ^ k ∧ digstep l 0 = digstep (l.drop k) n) ∧ w = wr) (fun _ v4 _ => l.length - (intOf v4).toNat)
    case atStart => exact ⟨0, 0, rfl, rfl, by omega, ⟨by decide, by simp⟩, rfl⟩
    case round =>
     obtain ⟨k, n, rfl, rfl, hk, hn, rfl⟩ := hrel
     have hp : n < 1000000000 := by
      have h1 := hn.out.1
      have h2 : 10 ^ k ≤ 10 ^ 9 := Nat.pow_le_pow_right (by decide) (by omega)
      omega
     have hp2 : (n : Int) < 1000000000 := by omega
     clear hp
     by_cases hlt : k < l.length
     ·have hlt2 : (k : Int) < (l.length : Int) := by omega
      obtain ⟨c, hck⟩ : ∃ c, Hd (l[k]? = some c) := ⟨_, ⟨List.getElem?_eq_getElem hlt⟩⟩
      obtain ⟨y1, f1⟩ : ∃ b, Hd (decide ((c.toNat : Int) < 48) = b) := ⟨_, ⟨rfl⟩⟩
      obtain ⟨y2, f2⟩ : ∃ b, Hd (decide ((57 : Int) < (c.toNat : Int)) = b) := ⟨_, ⟨rfl⟩⟩
      clear hlt
      cases y1
      ·cases y2
       ·have g1 : (48 : Int) ≤ c.toNat := by have := of_decide_eq_false f1.out; omega
        have g2 : (c.toNat : Int) ≤ 57 := by have := of_decide_eq_false f2.out; omega
        have hy := Hd.mk (digstep_yes hck.out (by omega) n)
        go_wp2_with (first | (with_reducible refine wl_run rfl (ex_slen _ 9 _ rfl rfl l rfl) ?_) | (with_reducible refine wl_run rfl (ex_sidx _ 9 _ _ rfl rfl .i64 l k c hck.out _ rfl rfl rfl) ?_) | ((with_reducible refine wl_runG ?hw (ex_sidx _ 9 (.tmp 34) (.tmp 35) rfl rfl .i64 l k c hck.out _ ?hz rfl rfl) ?_); (case hw => rfl); (case hz => rfl)) | ((with_reducible refine wl_run rfl (ex_lss _ 5 5 (.tmp 31) (.const (.int .u8 48)) rfl .u8 (c.toNat : Int) 48 rfl rfl _ f1.out) ?_); simp only [Act.put, uA, uB, uC]) | ((with_reducible refine wl_runG ?hw (ex_gtr _ 5 5 (.tmp 36) (.const (.int .u8 57)) rfl .u8 (c.toNat : Int) 57 rfl rfl _ f2.out) ?_); (case hw => rfl); simp only [Act.put, uA, uB, uC]))
        refine ⟨⟨k + 1, n * 10 + (c.toNat - 48), congrArg (Value.int .i64) (by omega), by go_num, by omega, ⟨?_, by rw [hn.out.2, hy.out]⟩, trivial⟩, by simp [intOf]; omega⟩
        have := hn.out.1
        rw [Nat.pow_succ]
        omega
       ·have hy := Hd.mk (digstep_no hck.out (.inr (by have := of_decide_eq_true f2.out; omega)) n)
        go_wp2_with (first | (with_reducible refine wl_run rfl (ex_slen _ 9 _ rfl rfl l rfl) ?_) | (with_reducible refine wl_run rfl (ex_sidx _ 9 _ _ rfl rfl .i64 l k c hck.out _ rfl rfl rfl) ?_) | ((with_reducible refine wl_runG ?hw (ex_sidx _ 9 (.tmp 34) (.tmp 35) rfl rfl .i64 l k c hck.out _ ?hz rfl rfl) ?_); (case hw => rfl); (case hz => rfl)) | ((with_reducible refine wl_run rfl (ex_lss _ 5 5 (.tmp 31) (.const (.int .u8 48)) rfl .u8 (c.toNat : Int) 48 rfl rfl _ f1.out) ?_); simp only [Act.put, uA, uB, uC]) | ((with_reducible refine wl_runG ?hw (ex_gtr _ 5 5 (.tmp 36) (.const (.int .u8 57)) rfl .u8 (c.toNat : Int) 57 rfl rfl _ f2.out) ?_); (case hw => rfl); simp only [Act.put, uA, uB, uC]))
        go_ret
        rw [hn.out.2, hy.out]
        exact ⟨rfl, rfl⟩
      ·have hy := Hd.mk (digstep_no hck.out (.inl (by have := of_decide_eq_true f1.out; omega)) n)
       go_wp2_with (first | (with_reducible refine wl_run rfl (ex_slen _ 9 _ rfl rfl l rfl) ?_) | (with_reducible refine wl_run rfl (ex_sidx _ 9 _ _ rfl rfl .i64 l k c hck.out _ rfl rfl rfl) ?_) | ((with_reducible refine wl_run rfl (ex_lss _ 5 5 (.tmp 31) (.const (.int .u8 48)) rfl .u8 (c.toNat : Int) 48 rfl rfl _ f1.out) ?_); simp only [Act.put, uA, uB, uC]))
       go_ret
       rw [hn.out.2, hy.out]
       exact ⟨rfl, rfl⟩
     ·have hk2 : (k : Int) = l.length := by omega
      have hy : Hd (digstep l 0 = n) := ⟨by rw [hn.out.2, List.drop_of_length_le (by omega)]; rfl⟩
      clear hlt
      go_wp2_with (with_reducible refine wl_run rfl (ex_slen _ 9 _ rfl rfl l rfl) ?_)
      go_ret
      rw [hy.out]
      exact ⟨rfl, rfl⟩
   ·cases x0
    ·have hg : Hd (dig l = digstep l 0) := ⟨dig_good (fun h => h.elim (fun h => hne.out h) (fun h => h.elim (fun h => by have := of_decide_eq_false e9.out; omega) (fun h => by have h2 := h.2; rw [hh.out] at h2; injection h2 with h2; have := of_decide_eq_false e0.out; rw [h2] at this; exact this rfl)))⟩
     rw [hg.out]
     have l9 : (l.length : Int) ≤ 9 := by
      have := of_decide_eq_false e9.out
      omega
     go_enter Tryz.func54, Tryz.ntmps54
     go_wp2_with (first | (with_reducible refine wl_run rfl (ex_slen _ 9 _ rfl rfl l rfl) ?_) | ((with_reducible refine wl_runG ?hw (ex_slen _ 9 _ rfl rfl l rfl) ?_); (case hw => rfl)) | ((with_reducible refine wl_run rfl (ex_eql _ 3 3 (.tmp 6) (.const (.int .i64 0)) rfl .i64 (l.length : Int) 0 rfl rfl _ d0.out) ?_); simp only [Act.put, uA, uB, uC]) | ((with_reducible refine wl_runG ?hw (ex_gtr _ 3 3 (.tmp 10) (.const (.int .i64 9)) rfl .i64 (l.length : Int) 9 rfl rfl _ e9.out) ?_); (case hw => rfl); simp only [Act.put, uA, uB, uC]) | ((with_reducible refine wl_runG ?hw (ex_gtr _ 3 3 (.tmp 15) (.const (.int .i64 1)) rfl .i64 (l.length : Int) 1 rfl rfl _ e1.out) ?_); (case hw => rfl); simp only [Act.put, uA, uB, uC]) | ((with_reducible refine wl_runG ?hw (ex_sidx _ 9 (.tmp 18) (.const (.int .i64 0)) rfl rfl .i64 l 0 c0 hc0.out _ ?hz rfl rfl) ?_); (case hw => rfl); (case hz => rfl)) | ((with_reducible refine wl_runG ?hw (ex_eql _ 5 5 (.tmp 19) (.const (.int .u8 48)) rfl .u8 (c0.toNat : Int) 48 rfl rfl _ e0.out) ?_); (case hw => rfl); simp only [Act.put, uA, uB, uC]))
     go_loopw [3, 4] (fun v3 v4 wr => ∃ k n : Nat, v3 = .int .i64 n ∧ v4 = .int .i64 k ∧ (k : Int) ≤ (l.length : Int) ∧ Hd (n + 1 ≤ 10 ^ k ∧ digstep l 0 = digstep (l.drop k) n) ∧ w = wr) (fun _ v4 _ => l.length - (intOf v4).toNat)
     case atStart => exact ⟨0, 0, rfl, rfl, by omega, ⟨by decide, by simp⟩, rfl⟩
     case round =>
      obtain ⟨k, n, rfl, rfl, hk, hn, rfl⟩ := hrel
      have hp : n < 1000000000 := by
       have h1 := hn.out.1
       have h2 : 10 ^ k ≤ 10 ^ 9 := Nat.pow_le_pow_right (by decide) (by omega)
       omega
      have hp2 : (n : Int) < 1000000000 := by omega
      clear hp
      by_cases hlt : k < l.length
      ·have hlt2 : (k : Int) < (l.length : Int) := by omega
       obtain ⟨c, hck⟩ : ∃ c, Hd (l[k]? = some c) := ⟨_, ⟨List.getElem?_eq_getElem hlt⟩⟩
       obtain ⟨y1, f1⟩ : ∃ b, Hd (decide ((c.toNat : Int) < 48) = b) := ⟨_, ⟨rfl⟩⟩
       obtain ⟨y2, f2⟩ : ∃ b, Hd (decide ((57 : Int) < (c.toNat : Int)) = b) := ⟨_, ⟨rfl⟩⟩
       clear hlt
       cases y1
       ·cases y2
        ·have g1 : (48 : Int) ≤ c.toNat := by have := of_decide_eq_false f1.out; omega
         have g2 : (c.toNat : Int) ≤ 57 := by have := of_decide_eq_false f2.out; omega
         have hy := Hd.mk (digstep_yes hck.out (by omega) n)
         go_wp2_with (first | (with_reducible refine wl_run rfl (ex_slen _ 9 _ rfl rfl l rfl) ?_) | (with_reducible refine wl_run rfl (ex_sidx _ 9 _ _ rfl rfl .i64 l k c hck.out _ rfl rfl rfl) ?_) | ((with_reducible refine wl_runG ?hw (ex_sidx _ 9 (.tmp 34) (.tmp 35) rfl rfl .i64 l k c hck.out _ ?hz rfl rfl) ?_); (case hw => rfl); (case hz => rfl)) | ((with_reducible refine wl_run rfl (ex_lss _ 5 5 (.tmp 31) (.const (.int .u8 48)) rfl .u8 (c.toNat : Int) 48 rfl rfl _ f1.out) ?_); simp only [Act.put, uA, uB, uC]) | ((with_reducible refine wl_runG ?hw (ex_gtr _ 5 5 (.tmp 36) (.const (.int .u8 57)) rfl .u8 (c.toNat : Int) 57 rfl rfl _ f2.out) ?_); (case hw => rfl); simp only [Act.put, uA, uB, uC]))
         refine ⟨⟨k + 1, n * 10 + (c.toNat - 48), congrArg (Value.int .i64) (by omega), by go_num, by omega, ⟨?_, by rw [hn.out.2, hy.out]⟩, trivial⟩, by simp [intOf]; omega⟩
         have := hn.out.1
         rw [Nat.pow_succ]
         omega
        ·have hy := Hd.mk (digstep_no hck.out (.inr (by have := of_decide_eq_true f2.out; omega)) n)
         go_wp2_with (first | (with_reducible refine wl_run rfl (ex_slen _ 9 _ rfl rfl l rfl) ?_) | (with_reducible refine wl_run rfl (ex_sidx _ 9 _ _ rfl rfl .i64 l k c hck.out _ rfl rfl rfl) ?_) | ((with_reducible refine wl_runG ?hw (ex_sidx _ 9 (.tmp 34) (.tmp 35) rfl rfl .i64 l k c hck.out _ ?hz rfl rfl) ?_); (case hw => rfl); (case hz => rfl)) | ((with_reducible refine wl_run rfl (ex_lss _ 5 5 (.tmp 31) (.const (.int .u8 48)) rfl .u8 (c.toNat : Int) 48 rfl rfl _ f1.out) ?_); simp only [Act.put, uA, uB, uC]) | ((with_reducible refine wl_runG ?hw (ex_gtr _ 5 5 (.tmp 36) (.const (.int .u8 57)) rfl .u8 (c.toNat : Int) 57 rfl rfl _ f2.out) ?_); (case hw => rfl); simp only [Act.put, uA, uB, uC]))
         go_ret
         rw [hn.out.2, hy.out]
         exact ⟨rfl, rfl⟩
       ·have hy := Hd.mk (digstep_no hck.out (.inl (by have := of_decide_eq_true f1.out; omega)) n)
        go_wp2_with (first | (with_reducible refine wl_run rfl (ex_slen _ 9 _ rfl rfl l rfl) ?_) | (with_reducible refine wl_run rfl (ex_sidx _ 9 _ _ rfl rfl .i64 l k c hck.out _ rfl rfl rfl) ?_) | ((with_reducible refine wl_run rfl (ex_lss _ 5 5 (.tmp 31) (.const (.int .u8 48)) rfl .u8 (c.toNat : Int) 48 rfl rfl _ f1.out) ?_); simp only [Act.put, uA, uB, uC]))
        go_ret
        rw [hn.out.2, hy.out]
        exact ⟨rfl, rfl⟩
      ·have hk2 : (k : Int) = l.length := by omega
       have hy : Hd (digstep l 0 = n) := ⟨by rw [hn.out.2, List.drop_of_length_le (by omega)]; rfl⟩
       clear hlt
       go_wp2_with (with_reducible refine wl_run rfl (ex_slen _ 9 _ rfl rfl l rfl) ?_)
       go_ret
       rw [hy.out]
       exact ⟨rfl, rfl⟩
    ·have hg : Hd (dig l = -1) := ⟨dig_bad (.inr (.inr ⟨by have := of_decide_eq_true e1.out; omega, by rw [hh.out]; exact congrArg some (UInt8.toNat_inj.1 (show c0.toNat = 48 by have := of_decide_eq_true e0.out; omega))⟩))⟩
     rw [hg.out]
     go_enter Tryz.func54, Tryz.ntmps54
     go_wp2_with (first | (with_reducible refine wl_run rfl (ex_slen _ 9 _ rfl rfl l rfl) ?_) | ((with_reducible refine wl_runG ?hw (ex_slen _ 9 _ rfl rfl l rfl) ?_); (case hw => rfl)) | ((with_reducible refine wl_run rfl (ex_eql _ 3 3 (.tmp 6) (.const (.int .i64 0)) rfl .i64 (l.length : Int) 0 rfl rfl _ d0.out) ?_); simp only [Act.put, uA, uB, uC]) | ((with_reducible refine wl_runG ?hw (ex_gtr _ 3 3 (.tmp 10) (.const (.int .i64 9)) rfl .i64 (l.length : Int) 9 rfl rfl _ e9.out) ?_); (case hw => rfl); simp only [Act.put, uA, uB, uC]) | ((with_reducible refine wl_runG ?hw (ex_gtr _ 3 3 (.tmp 15) (.const (.int .i64 1)) rfl .i64 (l.length : Int) 1 rfl rfl _ e1.out) ?_); (case hw => rfl); simp only [Act.put, uA, uB, uC]) | ((with_reducible refine wl_runG ?hw (ex_sidx _ 9 (.tmp 18) (.const (.int .i64 0)) rfl rfl .i64 l 0 c0 hc0.out _ ?hz rfl rfl) ?_); (case hw => rfl); (case hz => rfl)) | ((with_reducible refine wl_runG ?hw (ex_eql _ 5 5 (.tmp 19) (.const (.int .u8 48)) rfl .u8 (c0.toNat : Int) 48 rfl rfl _ e0.out) ?_); (case hw => rfl); simp only [Act.put, uA, uB, uC]))
     go_ret
     exact ⟨rfl, rfl⟩
  ·have hg : Hd (dig l = -1) := ⟨dig_bad (.inr (.inl (by have := of_decide_eq_true e9.out; omega)))⟩
   rw [hg.out]
   go_enter Tryz.func54, Tryz.ntmps54
   go_wp2_with (first | (with_reducible refine wl_run rfl (ex_slen _ 9 _ rfl rfl l rfl) ?_) | ((with_reducible refine wl_runG ?hw (ex_slen _ 9 _ rfl rfl l rfl) ?_); (case hw => rfl)) | ((with_reducible refine wl_run rfl (ex_eql _ 3 3 (.tmp 6) (.const (.int .i64 0)) rfl .i64 (l.length : Int) 0 rfl rfl _ d0.out) ?_); simp only [Act.put, uA, uB, uC]) | ((with_reducible refine wl_runG ?hw (ex_gtr _ 3 3 (.tmp 10) (.const (.int .i64 9)) rfl .i64 (l.length : Int) 9 rfl rfl _ e9.out) ?_); (case hw => rfl); simp only [Act.put, uA, uB, uC]))
   go_ret
   exact ⟨rfl, rfl⟩
end Go.Proofs.YtkcechpaeilaeaaGreatDoor
