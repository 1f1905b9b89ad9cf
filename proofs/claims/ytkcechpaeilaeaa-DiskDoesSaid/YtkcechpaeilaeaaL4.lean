/- live. -/
import Derived.Test.YtkcechpaeilaeaaL3
import Derived.Test.YtkcechpaeilaeaaD10
namespace Go.Proofs.Ytkcechpaeilaeaa
open Go.RowKit
set_option linter.unusedVariables false
set_option linter.unusedSimpArgs false

theorem Bs_blk {w : World} {b c : Nat} {t : TypeId} {l : List Int} (h : Blk w b (u8s l) t) (hc : l.length ≤ c) : Bs w (.slice (some ⟨b, 0, none⟩) l.length c) l :=
  ⟨_, c, rfl, hc, .inr ⟨b, 0, rfl, fun j v hv => by rw [Nat.zero_add, Blk.cell h]; exact hv⟩⟩
theorem Blk_range {w : World} {b : Nat} {t : TypeId} {cs : List Value} (h : Blk w b cs t) : w.rangeAt b 0 cs := fun j v hv => by rw [Nat.zero_add, Blk.cell h]; exact hv
theorem Bs_new (w : World) (l : List Int) (t : TypeId) : Bs (w.alloc (.cells (u8s l).toArray t)) (.slice (some ⟨w.heap.size, 0, none⟩) l.length l.length) l := Bs_blk (Blk.new w (u8s l) t) (Nat.le_refl _)
theorem pageOf_length (l : List Int) : (pageOf l).length = 256 := pageUpto_length l 256

def liveM3 : DM := writeM (newM 8) 3 (pageOf [1, 1, 1, 1])
def liveM4 : DM := crashM liveM3 [1]
theorem live_atE : atE (newM 8) 3 256 = 0 := by kernel_rfl
theorem live_writeE : writeE (newM 8) = 0 := by kernel_rfl
theorem live_readE : readE liveM4 3 = 0 := by kernel_rfl
theorem live_shown : shownM liveM4 3 = pageOf [1] := by kernel_rfl
theorem new_few (n : Nat) : (newM n).ops < 1073741824 ∧ (newM n).ws.length < 1073741824 := ⟨by show (0 : Int) < _; omega, by show 0 < _; omega⟩

theorem live_write {w : World} {d b : Nat} {F : Nat → Prop} (h : DiskAt w d (newM 8) F) (hb : Blk w b (u8s (pageOf [1, 1, 1, 1])) 5) (hF : ¬ F b) :
    Calls Try.prog 12 #[.pointer (some ⟨d, 0, none⟩), .int .i64 3, .slice (some ⟨b, 0, none⟩) 256 256] w fun e w' => e = .returned (.int .i64 0) ∧ (∃ F', DiskAt w' d liveM3 F' ∧ ∀ k, F' k → F k ∨ w.heap.size ≤ k) ∧ Kp F w w' := by
  have hw := write_yes h 3 _ 0 256 (pageOf [1, 1, 1, 1]) (pageOf_length _) (Blk_range hb) hF live_atE (new_few 8).1 (new_few 8).2
  rw [live_writeE] at hw
  exact hw
theorem live_crash {w : World} {d b : Nat} {F : Nat → Prop} (h : DiskAt w d liveM3 F) (hb : Blk w b (u8s [1]) 5) (hF : ¬ F b) :
    Calls Try.prog 13 #[.pointer (some ⟨d, 0, none⟩), .slice (some ⟨b, 0, none⟩) 1 1] w fun e w' => e = .returned (.int .i64 0) ∧ DiskAt w' d liveM4 F ∧ Kp F w w' :=
  crash_at h (Bs_blk (c := 1) hb (Nat.le_refl _)) (by intro n hn; simp at hn; omega) (fun k hk => by simp [Value.ownBlock] at hk; subst hk; exact hF)
theorem live_read {w : World} {d : Nat} {F : Nat → Prop} (h : DiskAt w d liveM4 F) :
    Calls Try.prog 17 #[.pointer (some ⟨d, 0, none⟩), .int .i64 3] w fun e w' => ∃ b, e = .returned (.tuple #[.slice (some ⟨b, 0, none⟩) 256 256, .int .i64 0]) ∧ Blk w' b (u8s (pageOf [1])) 68 ∧ Kp (fun _ => False) w w' := by
  refine (read_yes h 3 live_readE).mono ?_
  rintro e w' ⟨b, h1, -, h2, h3⟩
  rw [live_shown] at h2
  exact ⟨b, h1, h2, h3⟩
theorem page_new (w : World) (l : List Int) : Calls Try.prog 11 #[.slice (some ⟨w.heap.size, 0, none⟩) l.length l.length] (w.alloc (.cells (u8s l).toArray 5)) fun e w' =>
    e = .returned (.slice (some ⟨w.heap.size + 1, 0, none⟩) 256 256) ∧ Blk w' (w.heap.size + 1) (u8s (pageOf l)) 5 ∧ Kp (fun _ => False) w w' := by
  refine (page_at (Bs_new w l 5)).mono ?_
  rintro e w' ⟨h1, h2, h3, -⟩
  have hs : (w.alloc (.cells (u8s l).toArray 5)).heap.size = w.heap.size + 1 := by simp
  rw [hs] at h1 h2
  exact ⟨h1, h2, ((Kp.refl (fun _ => False) w).alloc _).trans h3⟩
theorem page_new4 (w : World) : Calls Try.prog 11 #[.slice (some ⟨w.heap.size, 0, none⟩) 4 4] (w.alloc (.cells #[.int .u8 1, .int .u8 1, .int .u8 1, .int .u8 1] 5)) fun e w' =>
    e = .returned (.slice (some ⟨w.heap.size + 1, 0, none⟩) 256 256) ∧ Blk w' (w.heap.size + 1) (u8s (pageOf [1, 1, 1, 1])) 5 ∧ Kp (fun _ => False) w w' := page_new w [1, 1, 1, 1]
theorem page_new1 (w : World) : Calls Try.prog 11 #[.slice (some ⟨w.heap.size, 0, none⟩) 1 1] (w.alloc (.cells #[.int .u8 1] 5)) fun e w' =>
    e = .returned (.slice (some ⟨w.heap.size + 1, 0, none⟩) 256 256) ∧ Blk w' (w.heap.size + 1) (u8s (pageOf [1])) 5 ∧ Kp (fun _ => False) w w' := page_new w [1]
theorem same_pages {w : World} {a b : Nat} {t1 t2 : TypeId} {la lb : List Int} (ha : Blk w a (u8s la) t1) (hb : Blk w b (u8s lb) t2) (hla : la.length = 256) (hlb : lb.length = 256) :
    Calls Try.prog 19 #[.slice (some ⟨a, 0, none⟩) 256 256, .slice (some ⟨b, 0, none⟩) 256 256] w fun e w' => e = .returned (.bool (decide (la = lb))) ∧ Kp (fun _ => False) w w' := by
  have h := same_at (Bs_blk (c := 256) ha (by omega)) (Bs_blk (c := 256) hb (by omega)) (by omega)
  rw [hla, hlb] at h
  exact h

set_option maxHeartbeats 2000000 in
theorem live_at (w : World) : Calls Try.prog 10 #[] w fun e w' => e = .returned (.bool true) ∧ Kp (fun _ => False) w w' := by
  have hnew := Hd.mk (new_yes w 8 (by omega) (by omega))
  go_enter Try.func10, Try.ntmps10
  go_wp2_with (first
    | (go_at_call 9; refine hnew.out.mono ?_; rintro e w1 ⟨d, rfl, hD, hk⟩; have HD := Hd.mk hD; have HK := Hd.mk hk; clear hD hk)
    | (go_at_call 11
       (with_reducible refine (page_new4 w1).mono ?_)
       rintro e w2 ⟨rfl, hb2, hk2⟩
       have HD2 := Hd.mk (HD.out.keep hk2 (fun _ _ => id))
       have HK2 := Hd.mk (HK.out.trans hk2)
       have HB2 := Hd.mk hb2
       clear hb2 hk2)
    | (go_at_call 12
       refine (live_write HD2.out HB2.out (fun h => by have := h.2; omega)).mono ?_
       rintro e w3 ⟨rfl, ⟨F3, hD3, hF3⟩, hk3⟩
       have HD3 := Hd.mk hD3
       have HK3 := Hd.mk (HK2.out.andThen hk3 (fun i hi h => by have := h.1; omega))
       have HF3 := Hd.mk hF3
       clear hD3 hk3 hF3)
    | (go_at_call 13
       refine (live_crash (b := w3.heap.size) (HD3.out.keep ((Kp.refl (fun _ => False) w3).alloc (.cells (u8s [1]).toArray 5)) (fun _ _ => id)) (Blk.new w3 (u8s [1]) 5) (fun h => by have := HD3.out.lt _ h; omega)).mono ?_
       rintro e w4 ⟨rfl, hD4, hk4⟩
       have HD4 := Hd.mk hD4
       have HK4 := Hd.mk ((HK3.out.alloc (.cells (u8s [1]).toArray 5)).andThen hk4 (fun i hi h => by rcases HF3.out i h with h | h; exact absurd h.1 (by omega); have := HK2.out.size; omega))
       clear hD4 hk4)
    | (go_at_call 17
       refine (live_read HD4.out).mono ?_
       rintro e w5 ⟨rb, rfl, hb5, hk5⟩
       have HB5 := Hd.mk hb5
       have HK5 := Hd.mk (HK4.out.trans hk5)
       clear hb5 hk5)
    | (go_at_call 11
       refine (page_new1 w5).mono ?_
       rintro e w6 ⟨rfl, hb6, hk6⟩
       have HB6 := Hd.mk hb6
       have HBr := Hd.mk (hk6.keeps HB5.out id)
       have HK6 := Hd.mk (HK5.out.trans hk6)
       clear hb6 hk6)
    | (go_at_call 19
       refine (same_pages HBr.out HB6.out (pageOf_length _) (pageOf_length _)).mono ?_
       rintro e w7 ⟨rfl, hk7⟩
       have HK7 := Hd.mk (HK6.out.trans hk7)
       clear hk7))
  go_ret
  exact ⟨rfl, HK7.out⟩
end Go.Proofs.Ytkcechpaeilaeaa
