/- Joined out of: R4 R5. -/
import Derived.Test.YtkcechpaeilaeaaGreatDoorK18
set_option linter.unusedVariables false
set_option linter.unusedSimpArgs false
namespace Go.Proofs.YtkcechpaeilaeaaGreatDoor
open Go.RowKit
set_option maxRecDepth 100000
def TkR (b R : Nat) (w w' : World) (k : Nat) (s : Sc) (l : List UInt8) (e : Ending) : Prop :=
 (∃ q : Bool, e = .returned (.bool q) ∧ (q = false → ¬ ∃ s1, Pre k s l s1) ∧ (q = true → ∃ s1 VF VS VA cs, Pre k s l s1 ∧ Rd b R w' s1 (stg (k + 1) s1) VF VS VA cs)) ∧ Bo b R w w'
theorem info3s : (Tryz.prog.info? 3).map (·.size) = some 1 := by kernel_rfl
section
variable {ops : Array Oper} {rest : List Oper} {o : Oper} {a : Act} {Q : Exit → Act → World → Prop} {K : Act → World → Prop}
variable {b R : Nat} {w : World} {s : Sc} {st : Int} {VF VS VA : Value} {cs : List Value}
theorem ow_rd (t : Nat) (x y : Operand) (ho : o.op = .store t x y) (hi : (Tryz.prog.info? t).map (·.size) = some 1) (h : Rd b R w s st VF VS VA cs) (i : Nat) (v old : Value) (hx : a.eval x = .pointer (some ⟨R, i, none⟩)) (hy : a.eval y = v) (hv : v.cells = #[v]) (h1 : v.oneCell' = true) {s' : Sc} {st' : Int}
  (e : [.int .i64 s.pages, .int .i64 s.cache, VF, VS, .int .i64 s.cap, VA, .int .i64 st].set i v = [.int .i64 s'.pages, .int .i64 s'.cache, VF, VS, .int .i64 s'.cap, VA, .int .i64 st']) (e1 : s'.fl = s.fl) (e2 : s'.ss = s.ss) (e3 : s'.ac = s.ac)
  (hc : w.cell? ⟨R, i, none⟩ = some old) (hn : ∀ w2, Rd b R w2 s' st' VF VS VA cs → Bo b R w w2 → K (a.put o.dst undef) w2) : o.wp Tryz.prog a w K Q :=
 ow_store t x y v old ho ⟨R, i, none⟩ hi hx hy hv h1 hc (h.blk.free i) (hn _ (h.put i v e e1 e2 e3) (bo_set h.blk i v))
theorem wl_rd (hg : o.guard = none) (t : Nat) (x y : Operand) (ho : o.op = .store t x y) (hi : (Tryz.prog.info? t).map (·.size) = some 1) (h : Rd b R w s st VF VS VA cs) (i : Nat) (v old : Value) (hx : a.eval x = .pointer (some ⟨R, i, none⟩)) (hy : a.eval y = v) (hv : v.cells = #[v]) (h1 : v.oneCell' = true) {s' : Sc} {st' : Int}
  (e : [.int .i64 s.pages, .int .i64 s.cache, VF, VS, .int .i64 s.cap, VA, .int .i64 st].set i v = [.int .i64 s'.pages, .int .i64 s'.cache, VF, VS, .int .i64 s'.cap, VA, .int .i64 st']) (e1 : s'.fl = s.fl) (e2 : s'.ss = s.ss) (e3 : s'.ac = s.ac)
  (hc : w.cell? ⟨R, i, none⟩ = some old) (hn : ∀ w2, Rd b R w2 s' st' VF VS VA cs → Bo b R w w2 → wpList Tryz.prog ops Q rest (a.put o.dst undef) w2) : wpList Tryz.prog ops Q (o :: rest) a w :=
 wpList_plain hg fun _ hK => ow_rd t x y ho hi h i v old hx hy hv h1 e e1 e2 e3 hc (fun w2 h1 h2 => hK _ _ (hn w2 h1 h2))
end
theorem ivs_one {n : Int} (h : small1 n) : ivs (spl (Lib.itoa n)) = [.int .i64 n] ∧ (spl (Lib.itoa n)).length = 1 := by
 rw [spl_one (itoa_nb h.1)]
 simp only [ivs, List.map_cons, List.map_nil, (itoa_okS h.1 h.2).2, List.length_singleton, and_self]
theorem pre_head {k : Nat} (hk : k < 3) {s s1 : Sc} {l : List UInt8} (h : Pre k s l s1) : ∃ n, small1 n ∧ l = fst3 k ++ 32 :: Lib.itoa n := by
 rcases h with ⟨_, n, hn, e, _⟩ | ⟨h, _⟩ | ⟨h, _⟩ | ⟨h, _⟩
 ·exact ⟨n, hn, e⟩
 ·omega
 ·omega
 ·omega
theorem wd_rs {l x : List UInt8} (h : wd l = x) (hx : x ≠ []) {y : List UInt8} (hy : rs l = y) (hy0 : y ≠ []) : l = x ++ 32 :: y := by
 rcases wd_split l with ⟨_, h1, h2⟩ | ⟨_, h1⟩
 ·rw [h2] at hy; exact absurd hy.symm hy0
 ·rw [h, hy] at h1; exact h1
set_option maxHeartbeats 4000000 in
theorem takes_head0 {b R : Nat} {w : World} (hE : Ev w) {s : Sc} {VF VS VA : Value} {cs : List Value} (h : Rd b R w s 0 VF VS VA cs) (hlow : s.ss = [] ∧ s.ac = []) (hb : b ≤ w.heap.size) (l : List UInt8) (hl : l.length < 70000) :
  Calls Tryz.prog 75 #[.pointer (some ⟨R, 0, none⟩), .string ⟨l.toArray⟩] w fun e w' => TkR b R w w' 0 s l e := by
 have hcut := Hd.mk (cut_at (l := l) (by omega) hE)
 have hnu := Hd.mk (fun u (hu : KZ w u) => numbers_at (rs l) (Nat.lt_of_le_of_lt (rs_length l) hl) 1 (hE.keep hu))
 obtain ⟨WD, hWD⟩ : ∃ x, wd l = x := ⟨_, rfl⟩
 obtain ⟨RS, hRS⟩ : ∃ x, rs l = x := ⟨_, rfl⟩
 rw [hWD, hRS] at hcut
 rw [hRS] at hnu
 have hpn : Hd (∀ s1, Pre 0 s l s1 → WD = [112, 97, 103, 101, 115] ∧ ∃ n, small1 n ∧ RS = Lib.itoa n) := ⟨fun s1 hp => by
  obtain ⟨n, hn, rfl⟩ := pre_head (by omega) hp
  rw [(wd_hit (fst3_nb _) _).1] at hWD
  rw [(wd_hit (fst3_nb _) _).2] at hRS
  exact ⟨hWD.symm, n, hn, hRS.symm⟩⟩
 have hpy : Hd (∀ n, WD = [112, 97, 103, 101, 115] → small1 n → RS = Lib.itoa n → Pre 0 s l { s with pages := n }) := ⟨fun n e1 hn e2 => .inl ⟨by omega, n, hn, by
  refine wd_rs (hWD.trans e1) (by decide) (hRS.trans e2) ?_
  obtain ⟨v, rfl⟩ : ∃ v : Nat, n = (v : Int) := ⟨n.toNat, by have := hn.1; omega⟩
  exact itoa_ne v, rfl⟩⟩
 have H := Hd.mk h
 have hlow := Hd.mk hlow
 have hb := Hd.mk hb
 clear h hl hE hWD hRS
 go_enter Tryz.func75, Tryz.ntmps75
 go_wp2_with fail
 refine hcut.out.mono ?_
 rintro e w1 ⟨rfl, k1⟩
 have K1 := Hd.mk k1
 have H2 := Hd.mk (H.out.keep (k1.th ((Kp.refl _ w1).alloc (.cells #[.string ⟨#[112, 97, 103, 101, 115]⟩, .string ⟨#[99, 97, 99, 104, 101]⟩, .string ⟨#[99, 97, 112]⟩] 123))))
 have K2 := Hd.mk (k1.th ((Kp.refl _ w1).alloc (.cells #[.string ⟨#[112, 97, 103, 101, 115]⟩, .string ⟨#[99, 97, 99, 104, 101]⟩, .string ⟨#[99, 97, 112]⟩] 123)))
 have c6 := H2.out.c6
 have hA := Hd.mk (fun u (hu : KZ (w1.alloc (.cells #[.string ⟨#[112, 97, 103, 101, 115]⟩, .string ⟨#[99, 97, 99, 104, 101]⟩, .string ⟨#[99, 97, 112]⟩] 123)) u) => (hu.see (ad := ⟨w1.heap.size, 0, none⟩) (v := .string ⟨#[112, 97, 103, 101, 115]⟩) (by rw [Lib.cell_of_heap (_root_.Go.heap_alloc_new w1 _)]; rfl) id))
 clear k1 hcut H
 go_wp2_with fail
 refine (hnu.out _ K2.out).mono ?_
 rintro e w3 ⟨⟨v, q, rfl, hq, hr⟩, k3⟩
 have H3 := Hd.mk (H2.out.keep k3)
 have K3 := Hd.mk (K2.out.th k3)
 have hA := hA.out w3 k3
 replace hq := Hd.mk hq
 clear c6 k3 H2 hnu
 have c6 := H3.out.c6
 cases q
 ·clear hr
  go_wp2_with (simp only [Bool.false_eq_true, if_false])
  go_ret
  refine ⟨⟨false, rfl, fun _ => ?_, fun h => (by cases h)⟩, Bo.of K3.out hb.out⟩
  rintro ⟨s1, hp⟩
  obtain ⟨_, n, hn, e⟩ := hpn.out s1 hp
  have := hq.out.2 ((nums_one RS).2 ⟨n, hn, e⟩)
  cases this
 obtain ⟨g, c, rfl, _, hrg⟩ := hr rfl
 obtain ⟨n, hn, hRn⟩ := (nums_one RS).1 (hq.out.1 (by trivial))
 have hpn2 : Hd (WD = [112, 97, 103, 101, 115] → Pre 0 s l { s with pages := n }) := ⟨fun e => hpy.out n e hn hRn⟩
 have hiv := ivs_one hn
 rw [hRn, hiv.1] at hrg
 rw [hRn, hiv.2]
 have cn : w3.cell? ⟨g, 0, none⟩ = some (.int .i64 n) := hrg 0 _ rfl
 clear hr hq hn hRn hiv hrg hpy
 by_cases hw : WD = [112, 97, 103, 101, 115]
 rotate_left
 ·have q2 : Hd ((WD != [112, 97, 103, 101, 115]) = true) := ⟨by simpa using hw⟩
  replace hw := Hd.mk hw
  go_wp2_with (first | (simp only [Bool.false_eq_true, if_false]) | ((refine wlG (ex_sneq _ 9 9 (.tmp 35) (.tmp 41) rfl WD [112, 97, 103, 101, 115] true q2.out rfl rfl) ?_)))
  go_ret
  exact ⟨⟨false, rfl, fun _ ⟨s1, hp⟩ => hw.out (hpn.out s1 hp).1, fun h => (by cases h)⟩, Bo.of K3.out hb.out⟩
 have q2 : Hd ((WD != [112, 97, 103, 101, 115]) = false) := ⟨by simpa using hw⟩
 have hP := Hd.mk (hpn2.out hw)
 have B3 := Hd.mk (Bo.of (R := R) K3.out hb.out)
 have hset : Hd (([.int .i64 s.pages, .int .i64 s.cache, VF, VS, .int .i64 s.cap, VA, .int .i64 0] : List Value).set 0 (.int .i64 n) = ([.int .i64 n, .int .i64 s.cache, VF, VS, .int .i64 s.cap, VA, .int .i64 0] : List Value)) := ⟨rfl⟩
 have hset2 : Hd (([.int .i64 n, .int .i64 s.cache, VF, VS, .int .i64 s.cap, VA, .int .i64 0] : List Value).set 6 (.int .i64 1) = ([.int .i64 n, .int .i64 s.cache, VF, VS, .int .i64 s.cap, VA, .int .i64 1] : List Value)) := ⟨rfl⟩
 have cc := H3.out.c0
 clear hw hpn hpn2 K3 K1 K2
 go_wp2_with (first | (simp only [Bool.false_eq_true, if_false]) | ((refine wlG (ex_sneq _ 9 9 (.tmp 35) (.tmp 41) rfl WD [112, 97, 103, 101, 115] false q2.out rfl rfl) ?_)) | ((with_reducible refine wl_rd rfl 3 (.tmp 64) (.tmp 61) rfl info3s H3.out 0 (.int .i64 n) (.int .i64 s.pages) rfl rfl rfl rfl (s' := { s with pages := n }) (st' := 0) hset.out rfl rfl rfl cc ?_); intro w4 H4 b4; have c6' := H4.c6; have H4 := Hd.mk H4; have B4 := Hd.mk (B3.out.trans b4); clear b4) | ((with_reducible refine wl_rd rfl 3 (.tmp 80) (.tmp 78) rfl info3s H4.out 6 (.int .i64 1) (.int .i64 0) rfl rfl rfl rfl (s' := { s with pages := n }) (st' := 1) hset2.out rfl rfl rfl c6' ?_); intro w5 H5 b5; have H5 := Hd.mk H5; have B5 := Hd.mk (B4.out.trans b5); clear b5))
 go_ret
 refine ⟨⟨true, rfl, fun h => (by cases h), fun _ => ⟨{ s with pages := n }, VF, VS, VA, cs, hP.out, ?_⟩⟩, B5.out⟩
 have : stg (0 + 1) { s with pages := n } = 1 := by
  obtain ⟨h1, h2⟩ := hlow.out
  simp [stg, h1, h2]
 rw [this]
 exact H5.out
set_option maxHeartbeats 4000000 in
theorem takes_head1 {b R : Nat} {w : World} (hE : Ev w) {s : Sc} {VF VS VA : Value} {cs : List Value} (h : Rd b R w s 1 VF VS VA cs) (hlow : s.ss = [] ∧ s.ac = []) (hb : b ≤ w.heap.size) (l : List UInt8) (hl : l.length < 70000) :
  Calls Tryz.prog 75 #[.pointer (some ⟨R, 0, none⟩), .string ⟨l.toArray⟩] w fun e w' => TkR b R w w' 1 s l e := by
 have hcut := Hd.mk (cut_at (l := l) (by omega) hE)
 have hnu := Hd.mk (fun u (hu : KZ w u) => numbers_at (rs l) (Nat.lt_of_le_of_lt (rs_length l) hl) 1 (hE.keep hu))
 obtain ⟨WD, hWD⟩ : ∃ x, wd l = x := ⟨_, rfl⟩
 obtain ⟨RS, hRS⟩ : ∃ x, rs l = x := ⟨_, rfl⟩
 rw [hWD, hRS] at hcut
 rw [hRS] at hnu
 have hpn : Hd (∀ s1, Pre 1 s l s1 → WD = [99, 97, 99, 104, 101] ∧ ∃ n, small1 n ∧ RS = Lib.itoa n) := ⟨fun s1 hp => by
  obtain ⟨n, hn, rfl⟩ := pre_head (by omega) hp
  rw [(wd_hit (fst3_nb _) _).1] at hWD
  rw [(wd_hit (fst3_nb _) _).2] at hRS
  exact ⟨hWD.symm, n, hn, hRS.symm⟩⟩
 have hpy : Hd (∀ n, WD = [99, 97, 99, 104, 101] → small1 n → RS = Lib.itoa n → Pre 1 s l { s with cache := n }) := ⟨fun n e1 hn e2 => .inl ⟨by omega, n, hn, by
  refine wd_rs (hWD.trans e1) (by decide) (hRS.trans e2) ?_
  obtain ⟨v, rfl⟩ : ∃ v : Nat, n = (v : Int) := ⟨n.toNat, by have := hn.1; omega⟩
  exact itoa_ne v, rfl⟩⟩
 have H := Hd.mk h
 have hlow := Hd.mk hlow
 have hb := Hd.mk hb
 clear h hl hE hWD hRS
 go_enter Tryz.func75, Tryz.ntmps75
 go_wp2_with fail
 refine hcut.out.mono ?_
 rintro e w1 ⟨rfl, k1⟩
 have K1 := Hd.mk k1
 have H2 := Hd.mk (H.out.keep (k1.th ((Kp.refl _ w1).alloc (.cells #[.string ⟨#[112, 97, 103, 101, 115]⟩, .string ⟨#[99, 97, 99, 104, 101]⟩, .string ⟨#[99, 97, 112]⟩] 123))))
 have K2 := Hd.mk (k1.th ((Kp.refl _ w1).alloc (.cells #[.string ⟨#[112, 97, 103, 101, 115]⟩, .string ⟨#[99, 97, 99, 104, 101]⟩, .string ⟨#[99, 97, 112]⟩] 123)))
 have c6 := H2.out.c6
 have hA := Hd.mk (fun u (hu : KZ (w1.alloc (.cells #[.string ⟨#[112, 97, 103, 101, 115]⟩, .string ⟨#[99, 97, 99, 104, 101]⟩, .string ⟨#[99, 97, 112]⟩] 123)) u) => (hu.see (ad := ⟨w1.heap.size, 1, none⟩) (v := .string ⟨#[99, 97, 99, 104, 101]⟩) (by rw [Lib.cell_of_heap (_root_.Go.heap_alloc_new w1 _)]; rfl) id))
 clear k1 hcut H
 go_wp2_with fail
 refine (hnu.out _ K2.out).mono ?_
 rintro e w3 ⟨⟨v, q, rfl, hq, hr⟩, k3⟩
 have H3 := Hd.mk (H2.out.keep k3)
 have K3 := Hd.mk (K2.out.th k3)
 have hA := hA.out w3 k3
 replace hq := Hd.mk hq
 clear c6 k3 H2 hnu
 have c6 := H3.out.c6
 cases q
 ·clear hr
  go_wp2_with (simp only [Bool.false_eq_true, if_false])
  go_ret
  refine ⟨⟨false, rfl, fun _ => ?_, fun h => (by cases h)⟩, Bo.of K3.out hb.out⟩
  rintro ⟨s1, hp⟩
  obtain ⟨_, n, hn, e⟩ := hpn.out s1 hp
  have := hq.out.2 ((nums_one RS).2 ⟨n, hn, e⟩)
  cases this
 obtain ⟨g, c, rfl, _, hrg⟩ := hr rfl
 obtain ⟨n, hn, hRn⟩ := (nums_one RS).1 (hq.out.1 (by trivial))
 have hpn2 : Hd (WD = [99, 97, 99, 104, 101] → Pre 1 s l { s with cache := n }) := ⟨fun e => hpy.out n e hn hRn⟩
 have hiv := ivs_one hn
 rw [hRn, hiv.1] at hrg
 rw [hRn, hiv.2]
 have cn : w3.cell? ⟨g, 0, none⟩ = some (.int .i64 n) := hrg 0 _ rfl
 clear hr hq hn hRn hiv hrg hpy
 by_cases hw : WD = [99, 97, 99, 104, 101]
 rotate_left
 ·have q2 : Hd ((WD != [99, 97, 99, 104, 101]) = true) := ⟨by simpa using hw⟩
  replace hw := Hd.mk hw
  go_wp2_with (first | (simp only [Bool.false_eq_true, if_false]) | ((refine wlG (ex_sneq _ 9 9 (.tmp 35) (.tmp 41) rfl WD [99, 97, 99, 104, 101] true q2.out rfl rfl) ?_)))
  go_ret
  exact ⟨⟨false, rfl, fun _ ⟨s1, hp⟩ => hw.out (hpn.out s1 hp).1, fun h => (by cases h)⟩, Bo.of K3.out hb.out⟩
 have q2 : Hd ((WD != [99, 97, 99, 104, 101]) = false) := ⟨by simpa using hw⟩
 have hP := Hd.mk (hpn2.out hw)
 have B3 := Hd.mk (Bo.of (R := R) K3.out hb.out)
 have hset : Hd (([.int .i64 s.pages, .int .i64 s.cache, VF, VS, .int .i64 s.cap, VA, .int .i64 1] : List Value).set 1 (.int .i64 n) = ([.int .i64 s.pages, .int .i64 n, VF, VS, .int .i64 s.cap, VA, .int .i64 1] : List Value)) := ⟨rfl⟩
 have hset2 : Hd (([.int .i64 s.pages, .int .i64 n, VF, VS, .int .i64 s.cap, VA, .int .i64 1] : List Value).set 6 (.int .i64 2) = ([.int .i64 s.pages, .int .i64 n, VF, VS, .int .i64 s.cap, VA, .int .i64 2] : List Value)) := ⟨rfl⟩
 have cc := H3.out.c1
 clear hw hpn hpn2 K3 K1 K2
 go_wp2_with (first | (simp only [Bool.false_eq_true, if_false]) | ((refine wlG (ex_sneq _ 9 9 (.tmp 35) (.tmp 41) rfl WD [99, 97, 99, 104, 101] false q2.out rfl rfl) ?_)) | ((with_reducible refine wl_rd rfl 3 (.tmp 73) (.tmp 70) rfl info3s H3.out 1 (.int .i64 n) (.int .i64 s.cache) rfl rfl rfl rfl (s' := { s with cache := n }) (st' := 1) hset.out rfl rfl rfl cc ?_); intro w4 H4 b4; have c6' := H4.c6; have H4 := Hd.mk H4; have B4 := Hd.mk (B3.out.trans b4); clear b4) | ((with_reducible refine wl_rd rfl 3 (.tmp 80) (.tmp 78) rfl info3s H4.out 6 (.int .i64 2) (.int .i64 1) rfl rfl rfl rfl (s' := { s with cache := n }) (st' := 2) hset2.out rfl rfl rfl c6' ?_); intro w5 H5 b5; have H5 := Hd.mk H5; have B5 := Hd.mk (B4.out.trans b5); clear b5))
 go_ret
 refine ⟨⟨true, rfl, fun h => (by cases h), fun _ => ⟨{ s with cache := n }, VF, VS, VA, cs, hP.out, ?_⟩⟩, B5.out⟩
 have : stg (1 + 1) { s with cache := n } = 2 := by
  obtain ⟨h1, h2⟩ := hlow.out
  simp [stg, h1, h2]
 rw [this]
 exact H5.out
set_option maxHeartbeats 4000000 in
theorem takes_head2 {b R : Nat} {w : World} (hE : Ev w) {s : Sc} {VF VS VA : Value} {cs : List Value} (h : Rd b R w s 2 VF VS VA cs) (hlow : s.ss = [] ∧ s.ac = []) (hb : b ≤ w.heap.size) (l : List UInt8) (hl : l.length < 70000) :
  Calls Tryz.prog 75 #[.pointer (some ⟨R, 0, none⟩), .string ⟨l.toArray⟩] w fun e w' => TkR b R w w' 2 s l e := by
 have hcut := Hd.mk (cut_at (l := l) (by omega) hE)
 have hnu := Hd.mk (fun u (hu : KZ w u) => numbers_at (rs l) (Nat.lt_of_le_of_lt (rs_length l) hl) 1 (hE.keep hu))
 obtain ⟨WD, hWD⟩ : ∃ x, wd l = x := ⟨_, rfl⟩
 obtain ⟨RS, hRS⟩ : ∃ x, rs l = x := ⟨_, rfl⟩
 rw [hWD, hRS] at hcut
 rw [hRS] at hnu
 have hpn : Hd (∀ s1, Pre 2 s l s1 → WD = [99, 97, 112] ∧ ∃ n, small1 n ∧ RS = Lib.itoa n) := ⟨fun s1 hp => by
  obtain ⟨n, hn, rfl⟩ := pre_head (by omega) hp
  rw [(wd_hit (fst3_nb _) _).1] at hWD
  rw [(wd_hit (fst3_nb _) _).2] at hRS
  exact ⟨hWD.symm, n, hn, hRS.symm⟩⟩
 have hpy : Hd (∀ n, WD = [99, 97, 112] → small1 n → RS = Lib.itoa n → Pre 2 s l { s with cap := n }) := ⟨fun n e1 hn e2 => .inl ⟨by omega, n, hn, by
  refine wd_rs (hWD.trans e1) (by decide) (hRS.trans e2) ?_
  obtain ⟨v, rfl⟩ : ∃ v : Nat, n = (v : Int) := ⟨n.toNat, by have := hn.1; omega⟩
  exact itoa_ne v, rfl⟩⟩
 have H := Hd.mk h
 have hlow := Hd.mk hlow
 have hb := Hd.mk hb
 clear h hl hE hWD hRS
 go_enter Tryz.func75, Tryz.ntmps75
 go_wp2_with fail
 refine hcut.out.mono ?_
 rintro e w1 ⟨rfl, k1⟩
 have K1 := Hd.mk k1
 have H2 := Hd.mk (H.out.keep (k1.th ((Kp.refl _ w1).alloc (.cells #[.string ⟨#[112, 97, 103, 101, 115]⟩, .string ⟨#[99, 97, 99, 104, 101]⟩, .string ⟨#[99, 97, 112]⟩] 123))))
 have K2 := Hd.mk (k1.th ((Kp.refl _ w1).alloc (.cells #[.string ⟨#[112, 97, 103, 101, 115]⟩, .string ⟨#[99, 97, 99, 104, 101]⟩, .string ⟨#[99, 97, 112]⟩] 123)))
 have c6 := H2.out.c6
 have hA := Hd.mk (fun u (hu : KZ (w1.alloc (.cells #[.string ⟨#[112, 97, 103, 101, 115]⟩, .string ⟨#[99, 97, 99, 104, 101]⟩, .string ⟨#[99, 97, 112]⟩] 123)) u) => (hu.see (ad := ⟨w1.heap.size, 2, none⟩) (v := .string ⟨#[99, 97, 112]⟩) (by rw [Lib.cell_of_heap (_root_.Go.heap_alloc_new w1 _)]; rfl) id))
 clear k1 hcut H
 go_wp2_with fail
 refine (hnu.out _ K2.out).mono ?_
 rintro e w3 ⟨⟨v, q, rfl, hq, hr⟩, k3⟩
 have H3 := Hd.mk (H2.out.keep k3)
 have K3 := Hd.mk (K2.out.th k3)
 have hA := hA.out w3 k3
 replace hq := Hd.mk hq
 clear c6 k3 H2 hnu
 have c6 := H3.out.c6
 cases q
 ·clear hr
  go_wp2_with (simp only [Bool.false_eq_true, if_false])
  go_ret
  refine ⟨⟨false, rfl, fun _ => ?_, fun h => (by cases h)⟩, Bo.of K3.out hb.out⟩
  rintro ⟨s1, hp⟩
  obtain ⟨_, n, hn, e⟩ := hpn.out s1 hp
  have := hq.out.2 ((nums_one RS).2 ⟨n, hn, e⟩)
  cases this
 obtain ⟨g, c, rfl, _, hrg⟩ := hr rfl
 obtain ⟨n, hn, hRn⟩ := (nums_one RS).1 (hq.out.1 (by trivial))
 have hpn2 : Hd (WD = [99, 97, 112] → Pre 2 s l { s with cap := n }) := ⟨fun e => hpy.out n e hn hRn⟩
 have hiv := ivs_one hn
 rw [hRn, hiv.1] at hrg
 rw [hRn, hiv.2]
 have cn : w3.cell? ⟨g, 0, none⟩ = some (.int .i64 n) := hrg 0 _ rfl
 clear hr hq hn hRn hiv hrg hpy
 by_cases hw : WD = [99, 97, 112]
 rotate_left
 ·have q2 : Hd ((WD != [99, 97, 112]) = true) := ⟨by simpa using hw⟩
  replace hw := Hd.mk hw
  go_wp2_with (first | (simp only [Bool.false_eq_true, if_false]) | ((refine wlG (ex_sneq _ 9 9 (.tmp 35) (.tmp 41) rfl WD [99, 97, 112] true q2.out rfl rfl) ?_)))
  go_ret
  exact ⟨⟨false, rfl, fun _ ⟨s1, hp⟩ => hw.out (hpn.out s1 hp).1, fun h => (by cases h)⟩, Bo.of K3.out hb.out⟩
 have q2 : Hd ((WD != [99, 97, 112]) = false) := ⟨by simpa using hw⟩
 have hP := Hd.mk (hpn2.out hw)
 have B3 := Hd.mk (Bo.of (R := R) K3.out hb.out)
 have hset : Hd (([.int .i64 s.pages, .int .i64 s.cache, VF, VS, .int .i64 s.cap, VA, .int .i64 2] : List Value).set 4 (.int .i64 n) = ([.int .i64 s.pages, .int .i64 s.cache, VF, VS, .int .i64 n, VA, .int .i64 2] : List Value)) := ⟨rfl⟩
 have hset2 : Hd (([.int .i64 s.pages, .int .i64 s.cache, VF, VS, .int .i64 n, VA, .int .i64 2] : List Value).set 6 (.int .i64 3) = ([.int .i64 s.pages, .int .i64 s.cache, VF, VS, .int .i64 n, VA, .int .i64 3] : List Value)) := ⟨rfl⟩
 have cc := H3.out.c4
 clear hw hpn hpn2 K3 K1 K2
 go_wp2_with (first | (simp only [Bool.false_eq_true, if_false]) | ((refine wlG (ex_sneq _ 9 9 (.tmp 35) (.tmp 41) rfl WD [99, 97, 112] false q2.out rfl rfl) ?_)) | ((with_reducible refine wl_rd rfl 3 (.tmp 55) (.tmp 51) rfl info3s H3.out 4 (.int .i64 n) (.int .i64 s.cap) rfl rfl rfl rfl (s' := { s with cap := n }) (st' := 2) hset.out rfl rfl rfl cc ?_); intro w4 H4 b4; have c6' := H4.c6; have H4 := Hd.mk H4; have B4 := Hd.mk (B3.out.trans b4); clear b4) | ((with_reducible refine wl_rd rfl 3 (.tmp 80) (.tmp 78) rfl info3s H4.out 6 (.int .i64 3) (.int .i64 2) rfl rfl rfl rfl (s' := { s with cap := n }) (st' := 3) hset2.out rfl rfl rfl c6' ?_); intro w5 H5 b5; have H5 := Hd.mk H5; have B5 := Hd.mk (B4.out.trans b5); clear b5))
 go_ret
 refine ⟨⟨true, rfl, fun h => (by cases h), fun _ => ⟨{ s with cap := n }, VF, VS, VA, cs, hP.out, ?_⟩⟩, B5.out⟩
 have : stg (2 + 1) { s with cap := n } = 3 := by
  obtain ⟨h1, h2⟩ := hlow.out
  simp [stg, h1, h2]
 rw [this]
 exact H5.out
section
variable {ops : Array Oper} {rest : List Oper} {o : Oper} {a : Act} {Q : Exit → Act → World → Prop} {K : Act → World → Prop}
theorem ow_orG {b : Nat} {w : World} (s x : Operand) (t : TypeId) (ho : o.op = .call { callee := .builtin .append, args := #[s, x], argTypes := #[t, t] })
  (e : TypeId) (size bytes : Nat) {z : Value} (ht : Tryz.prog.underlying t = some (.slice e)) (hinf : (Tryz.prog.info? e).map (fun i => (i.zero, i.size, i.bytes)) = some (some z, size, bytes)) (hzs : z.cells.size = size) (hsz : 0 < size) (hby : bytes ≤ 1000)
  (v : Value) (n : Nat) (xs : List Value) (hs : a.eval s = v) (hown : Or b e size w v n xs) (hb : b ≤ w.heap.size)
  (g c : Nat) (news : List Value) (hx : a.eval x = .slice (some ⟨g, 0, none⟩) 1 c) (hl : news.length = size) (hnews : w.rangeAt g 0 news) (h1 : ∀ u ∈ news, u.oneCell' = true) (hn : n ≤ 1000000000)
  (h : ∀ v' w', Or b e size w' v' (n + 1) (xs ++ news) → Grew v v' w w' → K (a.put o.dst v') w') : o.wp Tryz.prog a w K Q :=
 ow_append s x t ho e size bytes ht hinf hzs hsz v n xs hs hown.own g 0 1 c news hx (by omega) hnews h1 (by simp only [maxLen]; omega) (by
  have : (n + 1) * bytes ≤ 1000000001 * 1000 := Nat.mul_le_mul (by omega) hby
  omega) (by omega)
  (fun v' w' h1 h2 h3 => h v' w' ⟨h1, fun k hk => (h3 k hk).elim (hown.new k) (fun h => Nat.le_trans hb h)⟩ ⟨h2, h3⟩)
end
theorem info100b : (Tryz.prog.info? 100).map (fun i => (i.zero, i.size, i.bytes)) = some (some (.agg ([.int .i32 0, .int .i32 0, .int .i64 0] : List Value).toArray), 3, 16) := by kernel_rfl
theorem info100s : (Tryz.prog.info? 100).map (·.size) = some 3 := by kernel_rfl
theorem info47s : (Tryz.prog.info? 47).map (·.size) = some 1 := by kernel_rfl
theorem row_new3 (w : World) (a b c : Value) (t : TypeId) : (w.alloc (.cells #[a, b, c] t)).rangeAt w.heap.size 0 [a, b, c] := fun j v hv => by
 rw [Lib.cell_of_heap (_root_.Go.heap_alloc_new w _)]
 simpa using hv
theorem pre_fold {k : Nat} {s s1 : Sc} {l : List UInt8} (hw : wd l = [102, 111, 108, 100]) (hk : 3 ≤ k) (h : Pre k s l s1) : ∃ x : Fo, (small1 x.f ∧ small1 x.t ∧ small1 x.n) ∧ rs l = tri x.f x.t x.n := by
 rcases h with ⟨h, _⟩ | ⟨_, _, _, x, hx, rfl, _⟩ | ⟨_, _, x, ⟨hs, _⟩, _⟩ | ⟨_, a, ha, rfl, _⟩
 ·omega
 ·exact ⟨x, hx, (wd_fold _).2⟩
 ·rw [hs] at hw
  simp at hw
 ·exact absurd hw (act_kw ha).1
theorem tri_ne {a b c : Int} (ha : small1 a) : tri a b c ≠ [] := by
 unfold tri
 simp
set_option maxHeartbeats 8000000 in
theorem takes_fold {b R : Nat} {w : World} (hE : Ev w) {s : Sc} {VF VS VA : Value} {cs : List Value} {k : Nat} (hk : 3 ≤ k) (h : Rd b R w s 3 VF VS VA cs) (hlow : s.ss = [] ∧ s.ac = []) (hfl : s.fl.length ≤ 1000) (hb : b ≤ w.heap.size) (l : List UInt8) (hl : l.length < 70000) (hw : wd l = [102, 111, 108, 100]) :
  Calls Tryz.prog 75 #[.pointer (some ⟨R, 0, none⟩), .string ⟨l.toArray⟩] w fun e w' => TkR b R w w' k s l e := by
 have hcut := Hd.mk (cut_at (l := l) (by omega) hE)
 have hnu := Hd.mk (fun u (hu : KZ w u) => numbers_at (rs l) (Nat.lt_of_le_of_lt (rs_length l) hl) 3 (hE.keep hu))
 have hpn := Hd.mk (fun s1 (hp : Pre k s l s1) => pre_fold hw hk hp)
 have hpy : Hd (∀ x : Fo, (small1 x.f ∧ small1 x.t ∧ small1 x.n) → rs l = tri x.f x.t x.n → Pre k s l { s with fl := s.fl ++ [x] }) := ⟨fun x hx e => .inr (.inl ⟨hk, hlow.1, hlow.2, x, hx, wd_rs hw (by decide) e (tri_ne hx.1), rfl⟩)⟩
 have hstg : Hd (∀ x : Fo, stg (k + 1) { s with fl := s.fl ++ [x] } = 3) := ⟨fun x => by
  obtain ⟨h1, h2⟩ := hlow
  have : ¬ k + 1 < 3 := by omega
  simp [stg, h1, h2, this]⟩
 obtain ⟨RS, hRS⟩ : ∃ x, rs l = x := ⟨_, rfl⟩
 rw [hw, hRS] at hcut
 rw [hRS] at hnu hpn hpy
 have H := Hd.mk h
 have hb := Hd.mk hb
 have hfl := Hd.mk hfl
 have qf : Hd ((([102, 111, 108, 100] : List UInt8) == [102, 111, 108, 100]) = true) := ⟨by decide⟩
 clear h hl hE hRS hw hk hlow
 go_enter Tryz.func75, Tryz.ntmps75
 go_wp2_with fail
 refine hcut.out.mono ?_
 rintro e w1 ⟨rfl, k1⟩
 have K2 := Hd.mk (k1.th ((Kp.refl _ w1).alloc (.cells #[.string ⟨#[112, 97, 103, 101, 115]⟩, .string ⟨#[99, 97, 99, 104, 101]⟩, .string ⟨#[99, 97, 112]⟩] 123)))
 have H2 := Hd.mk (H.out.keep K2.out)
 have c6 := H2.out.c6
 clear k1 hcut H
 go_wp2_with (first | (simp only [Bool.false_eq_true, if_false]) | ((with_reducible refine wl_run rfl (ex_seql _ 9 9 (.tmp 82) (.const (.string ⟨#[102, 111, 108, 100]⟩)) rfl [102, 111, 108, 100] [102, 111, 108, 100] true qf.out rfl rfl) ?_); simp only [Act.put, uA, uB, uC]))
 have hlt := Hd.mk H2.out.rf.lt
 refine (hnu.out _ K2.out).mono ?_
 rintro e w3 ⟨⟨v, q, rfl, hq, hr⟩, k3⟩
 have H3 := Hd.mk (H2.out.keep k3)
 have K3 := Hd.mk (K2.out.th k3)
 replace hq := Hd.mk hq
 clear c6 k3 H2 hnu K2
 cases q
 ·clear hr
  go_wp2_with fail
  go_ret
  refine ⟨⟨false, rfl, fun _ => ?_, fun h => (by cases h)⟩, Bo.of K3.out hb.out⟩
  rintro ⟨s1, hp⟩
  obtain ⟨x, hx, e⟩ := hpn.out s1 hp
  have := hq.out.2 ((nums_three RS).2 ⟨_, _, _, hx, e⟩)
  cases this
 obtain ⟨g, c, rfl, hgf, hrg⟩ := hr rfl
 obtain ⟨x1, x2, x3, hx, hRn⟩ := (nums_three RS).1 (hq.out.1 (by trivial))
 have hP := Hd.mk (hpy.out ⟨x1, x2, x3⟩ hx hRn)
 have hst := hstg.out ⟨x1, x2, x3⟩
 replace hst := Hd.mk hst
 have hiv : ivs (spl RS) = [.int .i64 x1, .int .i64 x2, .int .i64 x3] ∧ (spl RS).length = 3 := by
  rw [hRn, spl_tri hx.1 hx.2.1 hx.2.2]
  simp only [ivs, List.map_cons, List.map_nil, (itoa_okS hx.1.1 hx.1.2).2, (itoa_okS hx.2.1.1 hx.2.1.2).2, (itoa_okS hx.2.2.1 hx.2.2.2).2, List.length_cons, List.length_nil, and_self]
 rw [hiv.1] at hrg
 rw [hiv.2]
 have n0 := Hd.mk (hrg 0 (.int .i64 x1) rfl)
 have n1 := Hd.mk (hrg 1 (.int .i64 x2) rfl)
 have n2 := Hd.mk (hrg 2 (.int .i64 x3) rfl)
 have z1 : Hd (IntKind.i32.wrap x1 = x1) := ⟨w32 (by have := hx.1.1; have := hx.1.2; omega)⟩
 have z2 : Hd (IntKind.i32.wrap x2 = x2) := ⟨w32 (by have := hx.2.1.1; have := hx.2.1.2; omega)⟩
 have B3 := Hd.mk (Bo.of (R := R) K3.out hb.out)
 have hgn : Hd (VF.ownBlock ≠ some g) := ⟨fun e => by have := hlt.out g e; omega⟩
 obtain ⟨F, cF, hF, _⟩ := H3.out.rf.slice
 have c2 := Hd.mk H3.out.c2
 clear hr hq hRn hiv hrg hpy hpn hx K3 hstg
 go_wp2_with fail
 have hS : Hd ((fun W : World => W.cell? ⟨R, 2, none⟩ = some VF ∧ W.cell? ⟨g, 0, none⟩ = some (.int .i64 x1) ∧ W.cell? ⟨g, 1, none⟩ = some (.int .i64 x2) ∧ W.cell? ⟨g, 2, none⟩ = some (.int .i64 x3)) w3.drew) := ⟨⟨c2.out, n0.out, n1.out, n2.out⟩⟩
 refine rn_begin (fun W : World => W.cell? ⟨R, 2, none⟩ = some VF ∧ W.cell? ⟨g, 0, none⟩ = some (.int .i64 x1) ∧ W.cell? ⟨g, 1, none⟩ = some (.int .i64 x2) ∧ W.cell? ⟨g, 2, none⟩ = some (.int .i64 x3)) (List.range 25) (by kernel_rfl) ?_
 refine rnT [21, 22, 23, 24, 25] 0 97 (.pointer (some ⟨R, 0, none⟩)) (rnM rfl rfl) hS.out ?_
 refine rnT [2, 3, 4, 5, 6, 20, 25] 1 98 (.pointer (some ⟨R, 0, none⟩)) (rnM rfl rfl) hS.out ?_
 refine rnT [3, 4, 5, 6, 20, 25] 2 99 (.pointer (some ⟨R, 0, none⟩)) (fun W hW => ex_nilCheck W _ _ rfl rfl) hS.out ?_
 simp only [Act.put, uA, uB, uC]
 refine rnT [4, 5, 6, 20, 25] 3 100 (.pointer (some ⟨R, 0, none⟩)) (erF 108 0 _ rfl R 0 5 0 0 Tryz.underlying108 rfl) hS.out ?_
 refine rnT [5, 6, 20, 25] 4 101 (.pointer (some ⟨R, 2, none⟩)) (erF 53 2 _ rfl R 0 2 2 2 Tryz.underlying53 rfl) hS.out ?_
 refine rnT [6, 20, 25] 5 102 (.pointer (some ⟨R, 2, none⟩)) (erF 50 0 _ rfl R 2 0 0 2 Tryz.underlying50 rfl) hS.out ?_
 simp only [Act.put, uA, uB, uC]
 refine rnT [20, 25] 6 103 (VF) (fun W hW => by subst hF; exact ex_load W 47 _ _ rfl ⟨R, 2, none⟩ U47 rfl rfl hW.1) hS.out ?_
 refine rnT [8, 9, 10, 18, 19, 20, 25] 7 104 (.slice (some ⟨g, 0, none⟩) 3 c) (rnM rfl rfl) hS.out ?_
 refine rnT [9, 10, 18, 19, 20, 25] 8 105 (.pointer (some ⟨g, 0, none⟩)) (erI 97 3 _ _ rfl 1 0 Tryz.underlying97 g 0 _ _ 0) hS.out ?_
 simp only [Act.put, uA, uB, uC]
 refine rnT [10, 18, 19, 20, 25] 9 106 (.int .i64 (x1)) (fun W hW => ex_load W 3 _ _ rfl ⟨g, 0, none⟩ U3 rfl rfl (hW.2.1)) hS.out ?_
 refine rnT [18, 19, 20, 25] 10 107 (.int .i32 x1) (fun W hW => ex_convz W 3 21 _ rfl (by kernel_rfl) .i32 U21 .i64 x1 x1 rfl z1.out) hS.out ?_
 refine rnT [12, 13, 14, 18, 19, 20, 25] 11 108 (.slice (some ⟨g, 0, none⟩) 3 c) (rnM rfl rfl) hS.out ?_
 simp only [Act.put, uA, uB, uC]
 refine rnT [13, 14, 18, 19, 20, 25] 12 109 (.pointer (some ⟨g, 1, none⟩)) (erI 97 3 _ _ rfl 1 1 Tryz.underlying97 g 0 _ _ 1) hS.out ?_
 refine rnT [14, 18, 19, 20, 25] 13 110 (.int .i64 (x2)) (fun W hW => ex_load W 3 _ _ rfl ⟨g, 1, none⟩ U3 rfl rfl (hW.2.2.1)) hS.out ?_
 refine rnT [18, 19, 20, 25] 14 111 (.int .i32 x2) (fun W hW => ex_convz W 3 21 _ rfl (by kernel_rfl) .i32 U21 .i64 x2 x2 rfl z2.out) hS.out ?_
 simp only [Act.put, uA, uB, uC]
 refine rnT [16, 17, 18, 19, 20, 25] 15 112 (.slice (some ⟨g, 0, none⟩) 3 c) (rnM rfl rfl) hS.out ?_
 refine rnT [17, 18, 19, 20, 25] 16 113 (.pointer (some ⟨g, 2, none⟩)) (erI 97 3 _ _ rfl 1 2 Tryz.underlying97 g 0 _ _ 2) hS.out ?_
 refine rnT [18, 19, 20, 25] 17 114 (.int .i64 (x3)) (fun W hW => ex_load W 3 _ _ rfl ⟨g, 2, none⟩ U3 rfl rfl (hW.2.2.2)) hS.out ?_
 simp only [Act.put, uA, uB, uC]
 refine rnT [19, 20, 25] 18 115 (.agg ([.int .i32 x1, .int .i32 x2, .int .i64 x3] : List Value).toArray) (fun W hW => ex_build W 100 [(0, .tmp 107), (1, .tmp 111), (2, .tmp 114)] rfl Tryz.underlying100 [.int .i32 0, .int .i32 0, .int .i64 0] (zero100 W) #[(0, 1), (1, 1), (2, 1)] (by kernel_rfl) [(0, .int .i32 x1), (1, .int .i32 x2), (2, .int .i64 x3)] rfl [.int .i32 x1, .int .i32 x2, .int .i64 x3] rfl) hS.out ?_
 simp only [Act.put, uA, uB, uC]
 have H4 := Hd.mk ((H3.out.keep (Kp.refl _ w3).drew).keep ((Kp.refl _ w3.drew).alloc (.cells ([.int .i32 x1, .int .i32 x2, .int .i64 x3] : List Value).toArray 100)))
 have B4 : Hd (Bo b R w (w3.drew.alloc (.cells ([.int .i32 x1, .int .i32 x2, .int .i64 x3] : List Value).toArray 100))) := ⟨B3.out.trans (Bo.of ((Kp.refl (fun _ => False) w3).drew.alloc _) (Nat.le_trans hb.out B3.out.size))⟩
 have r4 : Hd ((w3.drew.alloc (.cells ([.int .i32 x1, .int .i32 x2, .int .i64 x3] : List Value).toArray 100)).rangeAt w3.drew.heap.size 0 [.int .i32 x1, .int .i32 x2, .int .i64 x3]) := ⟨row_new3 _ _ _ _ _⟩
 have k4 : Hd (KZ w3.drew (w3.drew.alloc (.cells ([.int .i32 x1, .int .i32 x2, .int .i64 x3] : List Value).toArray 100))) := ⟨(Kp.refl _ _).alloc _⟩
 have hS4 : Hd ((fun W : World => W.cell? ⟨R, 2, none⟩ = some VF ∧ W.cell? ⟨g, 0, none⟩ = some (.int .i64 x1) ∧ W.cell? ⟨g, 1, none⟩ = some (.int .i64 x2) ∧ W.cell? ⟨g, 2, none⟩ = some (.int .i64 x3)) (w3.drew.alloc (.cells ([.int .i32 x1, .int .i32 x2, .int .i64 x3] : List Value).toArray 100))) := ⟨⟨k4.out.see hS.out.1 id, k4.out.see hS.out.2.1 id, k4.out.see hS.out.2.2.1 id, k4.out.see hS.out.2.2.2 id⟩⟩
 refine rn_one (i := 19) (dst := some 116) rfl (by kernel_rfl) rfl rfl (fun K hK => ?_)
 refine ow_run (ex_buildSlice1 _ 47 100 _ rfl U47 [.int .i32 x1, .int .i32 x2, .int .i64 x3] rfl [.int .i32 0, .int .i32 0, .int .i64 0] (zero100 _) info100s rfl (by simp) (by simp)) ?_
 refine hK _ _ (fun _ => hS4.out) ?_
 generalize w3.drew.heap.size = G at *
 generalize w3.drew.alloc (.cells ([.int .i32 x1, .int .i32 x2, .int .i64 x3] : List Value).toArray 100) = u4 at *
 clear hK K hS k4
 have hS := hS4
 clear hS4
 simp only [Act.put, uA, uB, uC]
 refine rn_one (i := 20) (dst := some 117) rfl (by kernel_rfl) rfl rfl (fun K hK => ?_)
 refine ow_orG (.tmp 103) (.tmp 116) 47 rfl 100 3 16 U47 info100b rfl (by decide) (by decide) VF _ _ rfl H4.out.rf (Nat.le_trans hb.out B4.out.size) G 1 [.int .i32 x1, .int .i32 x2, .int .i64 x3] rfl rfl r4.out (by simp [Value.oneCell']) (by have := hfl.out; omega) ?_
 intro V u5 ho hg
 have hS5 : Hd ((fun W : World => W.cell? ⟨R, 2, none⟩ = some VF ∧ W.cell? ⟨g, 0, none⟩ = some (.int .i64 x1) ∧ W.cell? ⟨g, 1, none⟩ = some (.int .i64 x2) ∧ W.cell? ⟨g, 2, none⟩ = some (.int .i64 x3)) u5) := ⟨⟨hg.kp.see hS.out.1 H4.out.nf, hg.kp.see hS.out.2.1 hgn.out, hg.kp.see hS.out.2.2.1 hgn.out, hg.kp.see hS.out.2.2.2 hgn.out⟩⟩
 refine hK _ _ (fun _ => hS5.out) ?_
 clear hK K hS
 have hS := hS5
 clear hS5
 have ho := Hd.mk ho
 have hg := Hd.mk hg
 simp only [Act.put, uA, uB, uC]
 refine rnT [22, 23, 24, 25] 21 118 (.pointer (some ⟨R, 0, none⟩)) (fun W hW => ex_nilCheck W _ _ rfl rfl) hS.out ?_
 refine rnT [23, 24, 25] 22 119 (.pointer (some ⟨R, 0, none⟩)) (erF 108 0 _ rfl R 0 5 0 0 Tryz.underlying108 rfl) hS.out ?_
 refine rnT [24, 25] 23 120 (.pointer (some ⟨R, 2, none⟩)) (erF 53 2 _ rfl R 0 2 2 2 Tryz.underlying53 rfl) hS.out ?_
 simp only [Act.put, uA, uB, uC]
 refine rnT [25] 24 121 (.pointer (some ⟨R, 2, none⟩)) (erF 50 0 _ rfl R 2 0 0 2 Tryz.underlying50 rfl) hS.out ?_
 simp only [Act.put, uA, uB, uC]
 have HF := Hd.mk (H4.out.fold (x := ⟨x1, x2, x3⟩) hg.out ho.out)
 have B5 : Hd (Bo b R w u5) := ⟨B4.out.trans (H4.out.rf.bo hg.out (Nat.le_trans hb.out B4.out.size))⟩
 have hfr : Hd (u5.frozen? ⟨R, 2, none⟩ = false) := ⟨Blk.free (hg.out.kp.keeps H4.out.blk H4.out.nf) 2⟩
 obtain ⟨A9, c9, e9, _⟩ := ho.out.slice
 replace e9 := Hd.mk e9
 refine rn_one (i := 25) (dst := none) rfl (by kernel_rfl) rfl rfl (fun K hK => ?_)
 refine ow_store 47 _ _ V VF rfl ⟨R, 2, none⟩ info47s rfl rfl (by rw [e9.out]; rfl) (by rw [e9.out]; rfl) hS.out.1 hfr.out ?_
 refine hK _ _ (fun h => (by cases h)) ?_
 have B6 : Hd (Bo b R w (u5.setCell ⟨R, 2, none⟩ V)) := ⟨B5.out.trans (bo_set (hg.out.kp.keeps H4.out.blk H4.out.nf) 2 V)⟩
 clear hK K hS H4 H3 hg ho
 simp only [Act.put, uA, uB, uC]
 refine rn_done (by kernel_rfl) ?_ _
 go_wp2_with fail
 go_ret
 refine ⟨⟨true, rfl, fun h => (by cases h), fun _ => ⟨_, V, VS, VA, cs, hP.out, ?_⟩⟩, B6.out⟩
 rw [hst.out]
 exact HF.out
end Go.Proofs.YtkcechpaeilaeaaGreatDoor
