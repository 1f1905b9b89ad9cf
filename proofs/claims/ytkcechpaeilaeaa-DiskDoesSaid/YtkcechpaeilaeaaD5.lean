/- settles, wakes, Sync. -/
import Derived.Test.YtkcechpaeilaeaaD4
namespace Go.Proofs.Ytkcechpaeilaeaa
open Go.RowKit
set_option linter.unusedVariables false
set_option linter.unusedSimpArgs false

def settleM (M : DM) : DM := { M with ws := [] }
def wakeM (M : DM) : DM := { M with ws := [], off := false, armed := false }
theorem DM.Ok.settle {M : DM} (h : M.Ok) : (settleM M).Ok := ⟨h.pos, h.most, h.st, (fun x hx => nomatch hx), Nat.zero_le _, h.left0, h.left1, h.ops0, h.ops1⟩
theorem DM.Ok.wake {M : DM} (h : M.Ok) : (wakeM M).Ok := ⟨h.pos, h.most, h.st, (fun x hx => nomatch hx), Nat.zero_le _, h.left0, h.left1, h.ops0, h.ops1⟩

set_option maxHeartbeats 400000 in
theorem settles_at {w : World} {d : Nat} {M : DM} {F : Nat → Prop} (h : DiskAt w d M F) : Calls Try.prog 36 #[.pointer (some ⟨d, 0, none⟩)] w fun e w' => e = .returned (.tuple #[]) ∧ DiskAt w' d (settleM M) F ∧ Kp F w w' := by
  obtain ⟨hok, S, cS, m, wv, spare, L, hp⟩ := h
  have hok' := Hd.mk hok.settle
  have Hp := Hd.mk hp
  have c1 := hp.c1
  have f1 := hp.fr 1
  have hdm : d ≠ m := fun e => hp.m_ne hp.blk e.symm
  have hb1 : Blk (w.setCell ⟨d, 1, none⟩ (.slice none 0 0)) d _ 61 := hp.blk.set 1 (.slice none 0 0)
  have hm1 : IMap (w.setCell ⟨d, 1, none⟩ (.slice none 0 0)) m L := hp.map.keep (heap_setCell_other w _ _ _ (fun e => hdm e.symm))
  have hk1 : Hd (Kp (· = d) w (w.setCell ⟨d, 1, none⟩ (.slice none 0 0))) := ⟨(Kp.refl _ _).cell _ _⟩
  have c2 := hp.c2
  have Hb1 := Hd.mk hb1
  have Hm1 := Hd.mk hm1
  clear hok hp hdm hb1 hm1
  go_enter Try.func36, Try.ntmps36
  go_wp2_with (with_reducible refine wl_clear rfl 59 3 3 _ rfl Try.underlying59 m rfl Hm1.out (fun w2 H2 => ?_))
  obtain ⟨hm2, hk2⟩ := ‹Hd (IMap _ m [] ∧ _)›.out
  refine bodyPost_end (results_none rfl _ _ _) rfl ⟨rfl, ⟨hok'.out, S, cS, m, .slice none 0 0, spare, [], ?_⟩, ?_⟩
  · have hb2 : Blk _ d _ 61 := hk2.keeps Hb1.out (fun e => Hp.out.m_ne Hp.out.blk e.symm)
    have hst : Blk _ S _ 68 := hk2.keeps (Hp.out.stb.other ⟨d, 1, none⟩ (.slice none 0 0) (fun e => Hp.out.d_ne_S e.symm)) (fun e => Hp.out.m_ne Hp.out.stb e.symm)
    refine ⟨hb2, hst, Hp.out.cap, hm2, ?_, World.ownsRow_nil _ _ _ _, Hp.out.fd, Hp.out.fS, Hp.out.fm, fun k hk => by simp [Value.ownBlock] at hk, fun k hk => ?_⟩
    · intro k
      rw [mget_nil]
      simp [showsAt, settleM, lastI]
    · have := Hp.out.lt k hk
      have h1 := hk1.out.size
      have h2 := hk2.size
      omega
  · exact (hk1.out.mono (S' := F) (fun k _ e => e ▸ Hp.out.fd)).andThen hk2 (fun k _ e => e ▸ Hp.out.fm)

set_option maxHeartbeats 400000 in
theorem wakes_at {w : World} {d : Nat} {M : DM} {F : Nat → Prop} (h : DiskAt w d M F) : Calls Try.prog 34 #[.pointer (some ⟨d, 0, none⟩)] w fun e w' => e = .returned (.tuple #[]) ∧ DiskAt w' d (wakeM M) F ∧ Kp F w w' := by
  have hs := Hd.mk (settles_at h)
  clear h
  go_enter Try.func34, Try.ntmps34
  go_wp2_with (go_at_call 36; refine hs.out.mono ?_; rintro e w1 ⟨rfl, ⟨hok, S, cS, m, wv, spare, L, hp⟩, hk⟩; have Hk := Hd.mk hk; have Hp := Hd.mk hp; have Hok := Hd.mk hok; have c3 := hp.c3; have c4 := hp.c4; have f3 := hp.fr 3; have f4 := hp.fr 4; clear hk hp hok)
  refine bodyPost_end (results_none rfl _ _ _) rfl ⟨rfl, ⟨Hok.out.wake, S, cS, m, wv, spare, L, Hp.out.field (M' := wakeM M) (((Kp.refl _ _).cell _ _).cell _ _) rfl rfl ((Hp.out.blk.set 3 (.bool false)).set 4 (.bool false))⟩, ?_⟩
  exact Hk.out.andThen (((Kp.refl (· = d) w1).cell 3 (.bool false)).cell 4 (.bool false)) (fun k _ e => e ▸ Hp.out.fd)
end Go.Proofs.Ytkcechpaeilaeaa
