/- What a page of the device shows; Read. -/
import Derived.Test.YtkcechpaeilaeaaD2
import Derived.Test.YtkcechpaeilaeaaOps
namespace Go.Proofs.Ytkcechpaeilaeaa
open Go.RowKit

def Z256 : List Value := List.replicate 256 (.int .u8 0)
theorem Z256_length : Z256.length = 256 := List.length_replicate
theorem zero68 (w : World) : (zeroValue 68).run Try.prog w = .ok (.agg Z256.toArray) w := by kernel_rfl
theorem info68 : (Try.prog.info? 68).map (·.size) = some 256 := by kernel_rfl
theorem zeroOf3 : (Try.prog.info? 3).map (·.zero) = some (some (.int .i64 0)) := by kernel_rfl
def shownM (M : DM) (p : Nat) : List Int := match lastI p M.ws with
  | some i => (M.ws.getD i (0, [])).2
  | none => M.st.getD p []

theorem getD_at {α : Type} (l : List α) (d : α) (i : Nat) (h : i < l.length) : l.getD i d = l[i] := by simp [List.getD, h]
theorem flat_range {α : Type} (f : α → List Value) (n : Nat) (l : List α) (hl : ∀ x ∈ l, (f x).length = n) : ∀ (i : Nat) (hi : i < l.length), ((l.flatMap f).drop (i * n)).take n = f l[i] := by
  induction l with
  | nil => intro i hi; simp at hi
  | cons x r ih =>
    intro i hi
    have hx := hl x (by simp)
    cases i with
    | zero =>
      simp only [Nat.zero_mul, List.drop_zero, List.flatMap_cons, List.getElem_cons_zero]
      rw [List.take_append_of_le_length (by omega), List.take_of_length_le (by omega)]
    | succ i =>
      simp only [List.flatMap_cons, List.getElem_cons_succ]
      rw [Nat.succ_mul, Nat.add_comm, ← List.drop_drop, List.drop_append_of_le_length (by omega), List.drop_of_length_le (show (f x).length ≤ n by omega), List.nil_append]
      exact ih (fun y hy => hl y (by simp [hy])) i (by simpa using hi)
theorem flat_length {α : Type} (f : α → List Value) (n : Nat) (l : List α) (hl : ∀ x ∈ l, (f x).length = n) : (l.flatMap f).length = l.length * n := by
  induction l with
  | nil => simp
  | cons x r ih =>
    simp only [List.flatMap_cons, List.length_append, List.length_cons]
    rw [hl x (by simp), ih (fun y hy => hl y (by simp [hy])), Nat.succ_mul, Nat.add_comm]
theorem lastI_spec {p : Nat} {ws : List (Nat × List Int)} {i : Nat} (h : lastI p ws = some i) : ∃ hi : i < ws.length, ws[i].1 = p := by
  induction ws generalizing i with
  | nil => simp [lastI] at h
  | cons x r ih =>
    unfold lastI at h
    cases hr : lastI p r with
    | some j =>
      rw [hr] at h
      simp only [Option.some.injEq] at h
      subst h
      obtain ⟨h1, h2⟩ := ih hr
      exact ⟨by simp; omega, by simpa using h2⟩
    | none =>
      rw [hr] at h
      simp only at h
      split at h
      · simp only [Option.some.injEq] at h
        subst h
        exact ⟨by simp, by simpa⟩
      · cases h
theorem wcell_length {x : Nat × List Int} (h : x.2.length = 256) : (wcell x).length = 257 := by simp [wcell, h]

section
variable {w : World} {d : Nat} {M : DM} {F : Nat → Prop} {S cS m : Nat} {wv : Value} {spare : List Value} {L : List (Int × Value)}
/-- Where a stable page lies. -/
theorem DiskP.page (h : DiskP w d M F S cS m wv spare L) (hok : M.Ok) {p : Nat} (hp : p < M.st.length) : w.rangeAt S (p * 256) (u8s (M.st.getD p [])) := by
  have hl : ∀ x ∈ M.st, (u8s x).length = 256 := fun x hx => by simp [hok.st x hx]
  have hr := h.stb.range (p * 256) 256
  have hlen := flat_length u8s 256 M.st hl
  have e : ((scells M.st ++ spare).drop (p * 256)).take 256 = u8s (M.st.getD p []) := by
    unfold scells
    rw [List.drop_append_of_le_length (by rw [hlen]; exact Nat.mul_le_mul_right _ (by omega)), List.take_append_of_le_length (by rw [List.length_drop, hlen]; have := Nat.mul_le_mul_right 256 (show p + 1 ≤ M.st.length from hp); omega)]
    rw [flat_range u8s 256 M.st hl p hp, getD_at _ _ _ hp]
  rw [e] at hr
  exact hr
/-- Where a write that waits lies. -/
theorem DiskP.wait (h : DiskP w d M F S cS m wv spare L) (hok : M.Ok) {i : Nat} (hi : i < M.ws.length) : ∃ g cap, wv = .slice (some ⟨g, 0, none⟩) M.ws.length cap ∧ F g ∧ w.rangeAt g (i * 257) (wcell M.ws[i]) := by
  have hl : ∀ x ∈ M.ws, (wcell x).length = 257 := fun x hx => wcell_length (hok.ws x hx).2
  rcases h.waits.2 with ⟨_, h0⟩ | ⟨g, cap, cur, rfl, hg, hh, hn, hcm, hcs, ht⟩
  · omega
  · refine ⟨g, cap, rfl, h.fw g rfl, ?_⟩
    have hb : Blk w g cur.toList 70 := by unfold Blk; rw [Array.toArray_toList]; exact hh
    have hr := hb.range (i * 257) 257
    have e : (cur.toList.drop (i * 257)).take 257 = wcell M.ws[i] := by
      have hlen := flat_length wcell 257 M.ws hl
      have hh2 := Nat.mul_le_mul_right 257 (show i + 1 ≤ M.ws.length from hi)
      rw [← flat_range wcell 257 M.ws hl i hi]
      unfold wcells at ht
      rw [← ht, List.drop_take, List.take_take]
      congr 1
      omega
    rw [e] at hr
    exact hr
end
theorem shownM_length {M : DM} (hok : M.Ok) {p : Nat} (hp : p < M.st.length) : (shownM M p).length = 256 := by
  unfold shownM
  cases h : lastI p M.ws with
  | none =>
    simp only
    rw [getD_at _ _ _ hp]
    exact hok.st _ (List.getElem_mem _)
  | some i =>
    obtain ⟨h1, _⟩ := lastI_spec h
    simp only
    rw [getD_at _ _ _ h1]
    exact (hok.ws _ (List.getElem_mem _)).2

set_option maxHeartbeats 400000 in
theorem shown_at {w : World} {d : Nat} {M : DM} {F : Nat → Prop} (h : DiskAt w d M F) (p : Nat) (hpl : p < M.st.length) : Calls Try.prog 37 #[.pointer (some ⟨d, 0, none⟩), .int .i64 p] w fun e w' => e = .returned (.agg (u8s (shownM M p)).toArray) ∧ w' = w.alloc (.cells (u8s (shownM M p)).toArray 68) := by
  obtain ⟨hok, S, cS, m, wv, spare, L, hp⟩ := h
  have hlen := shownM_length hok hpl
  have hz := zero68
  have hm : IMap (w.alloc (.cells Z256.toArray 68)) m L := hp.map.keep (_root_.Go.heap_alloc_old w _ hp.map.lt)
  have hsh := hp.shows p
  simp only [showsAt, Int.natCast_nonneg, if_true, Int.toNat_natCast] at hsh
  have hdl := blk_lt hp.blk
  have c0 := hp.c0
  have c1 := hp.c1
  have c2 := hp.c2
  have hone := u8s_one (shownM M p)
  have Hlen : Hd (256 = (u8s (shownM M p)).length) := Hd.mk (by rw [u8s_length, hlen])
  have hi := Hd.mk (show (Try.prog.info? 68).map (·.size) = some (u8s (shownM M p)).length by rw [← Hlen.out]; exact info68)
  have hfin : Hd ((results Try.f37 #[]).run Try.prog w = (results Try.f37 #[]).run Try.prog w) := Hd.mk rfl
  have hres : Hd (∀ (tmps : Array Value) (v : Value), tmps.getD 4 undef = .pointer (some ⟨w.heap.size, 0, none⟩) → v = .agg (u8s (shownM M p)).toArray → (results Try.f37 tmps).run Try.prog (w.alloc (.cells (u8s (shownM M p)).toArray 68)) = .ok v (w.alloc (.cells (u8s (shownM M p)).toArray 68))) :=
    Hd.mk fun tmps v h4 hv => by rw [hv]; exact results_cell_row (fn := Try.f37) rfl tmps _ w.heap.size 68 _ (0, 0) _ h4 (_root_.Go.heap_alloc_new w _) Try.underlying68 rfl (by simpa using hi.out)
  cases hl : lastI p M.ws with
  | none =>
    have hmg : Hd (mget L (p : Int) = none) := Hd.mk (by rw [hsh, hl]; rfl)
    have hE : shownM M p = M.st.getD p [] := by simp only [shownM, hl]
    have hS := Hd.mk (World.rangeAt_alloc (hp.page hok hpl) (.cells Z256.toArray 68))
    rw [← hE] at hS
    clear hsh hl hp hok hlen hE
    have hm := Hd.mk hm
    generalize shownM M p = pg at *
    go_enter Try.func37, Try.ntmps37
    go_wp2_with (first
      | (with_reducible refine wl_lookup rfl 59 3 3 _ _ true rfl Try.underlying59 Try.underlying3 zeroOf3 m p rfl rfl hm.out ?_; rw [hmg.out]; simp only [if_true, Option.getD_none, Option.isSome_none])
      | (with_reducible refine wl_load_mid rfl 68 _ rfl S (p * 256) rfl _ hS.out Try.underlying68 rfl hi.out ?_)
      | (with_reducible refine wl_store_new rfl 68 _ _ rfl _ (u8s pg) rfl rfl hi.out (Z256_length.trans Hlen.out) hone ?_))
    exact bodyPost_ret (hres.out _ _ rfl rfl) rfl ⟨rfl, rfl⟩
  | some i =>
    obtain ⟨hi1, hi2⟩ := lastI_spec hl
    have hmg : Hd (mget L (p : Int) = some (.int .i64 (i : Int))) := Hd.mk (by rw [hsh, hl]; rfl)
    have hE : shownM M p = M.ws[i].2 := by simp only [shownM, hl]; rw [getD_at _ _ _ hi1]
    obtain ⟨g, cap, rfl, hFg, hr⟩ := hp.wait hok hi1
    have hS : w.rangeAt g (i * 257 + 1) (u8s (M.ws[i].2)) := fun j v hv => by
      have := hr (j + 1) v (by simpa [wcell] using hv)
      rw [show i * 257 + 1 + j = i * 257 + (j + 1) from by omega]; exact this
    rw [← hE] at hS
    have hS := Hd.mk (World.rangeAt_alloc hS (.cells Z256.toArray 68))
    clear hsh hl hp hok hlen hE hr hi2
    have hm := Hd.mk hm
    generalize shownM M p = pg at *
    go_enter Try.func37, Try.ntmps37
    go_wp2_with (first
      | (with_reducible refine wl_lookup rfl 59 3 3 _ _ true rfl Try.underlying59 Try.underlying3 zeroOf3 m p rfl rfl hm.out ?_; rw [hmg.out]; simp only [if_true, Option.getD_some, Option.isSome_some])
      | (with_reducible refine wl_load_mid rfl 68 _ rfl g (i * 257 + 1) rfl _ hS.out Try.underlying68 rfl hi.out ?_)
      | (with_reducible refine wl_store_new rfl 68 _ _ rfl _ (u8s pg) rfl rfl hi.out (Z256_length.trans Hlen.out) hone ?_))
    exact bodyPost_ret (hres.out _ _ rfl rfl) rfl ⟨rfl, rfl⟩

/-- The answer of Read. -/
def readE (M : DM) (p : Int) : Int := atE M p 256
set_option maxHeartbeats 400000 in
theorem read_no {w : World} {d : Nat} {M : DM} {F : Nat → Prop} (h : DiskAt w d M F) (p : Int) (hno : (readE M p != 0) = true) : Calls Try.prog 17 #[.pointer (some ⟨d, 0, none⟩), .int .i64 p] w fun e w' => e = .returned (.tuple #[.slice none 0 0, .int .i64 (readE M p)]) ∧ w = w' := by
  have hat := Hd.mk (at_at h p 256)
  unfold readE at *
  generalize atE M p 256 = x at *
  clear h
  go_enter Try.func17, Try.ntmps17
  go_wp2_with (first | (go_at_call 31; refine hat.out.mono ?_; rintro e w' ⟨rfl, rfl⟩))
  go_ret2
  exact ⟨rfl, rfl⟩
set_option maxHeartbeats 400000 in
theorem read_yes {w : World} {d : Nat} {M : DM} {F : Nat → Prop} (h : DiskAt w d M F) (p : Nat) (hyes : readE M p = 0) : Calls Try.prog 17 #[.pointer (some ⟨d, 0, none⟩), .int .i64 p] w fun e w' =>
    ∃ b, e = .returned (.tuple #[.slice (some ⟨b, 0, none⟩) 256 256, .int .i64 0]) ∧ w.heap.size ≤ b ∧ Blk w' b (u8s (shownM M p)) 68 ∧ Kp (fun _ => False) w w' := by
  have hat := Hd.mk (at_at h (p : Int) 256)
  have hpl : p < M.st.length := by
    unfold readE atE at hyes
    split at hyes
    · cases hyes
    · omega
  have hok := h.1
  have hlen := shownM_length hok hpl
  have hsh := Hd.mk (shown_at h p hpl)
  unfold readE at hyes
  rw [hyes] at hat
  have hone := u8s_one (shownM M p)
  have Hlen : Hd (256 = (u8s (shownM M p)).length) := Hd.mk (by rw [u8s_length, hlen])
  have hi := Hd.mk (show (Try.prog.info? 68).map (·.size) = some (u8s (shownM M p)).length by rw [← Hlen.out]; exact info68)
  clear h hyes hlen hok
  generalize shownM M p = pg at *
  go_enter Try.func17, Try.ntmps17
  go_wp2_with (first
    | (go_at_call 31; refine hat.out.mono ?_; rintro e w' ⟨rfl, rfl⟩)
    | (go_at_call 37; refine hsh.out.mono ?_; rintro e w' ⟨rfl, rfl⟩)
    | (with_reducible refine wl_alloc rfl 68 rfl Z256 (zero68 _) ?_)
    | (with_reducible refine wl_store_new rfl 68 _ _ rfl _ (u8s pg) rfl rfl hi.out (Z256_length.trans Hlen.out) hone ?_))
  go_ret2
  exact ⟨w.heap.size + 1, rfl, by omega, by simpa using Blk.new (w.alloc (.cells (u8s pg).toArray 68)) (u8s pg) 68, ((Kp.refl _ _).alloc _).alloc _⟩
end Go.Proofs.Ytkcechpaeilaeaa
