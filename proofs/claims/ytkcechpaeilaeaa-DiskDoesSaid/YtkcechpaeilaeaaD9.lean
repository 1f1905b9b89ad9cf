/- Image, New. -/
import Derived.Test.YtkcechpaeilaeaaD8
import Derived.Test.YtkcechpaeilaeaaEy
namespace Go.Proofs.Ytkcechpaeilaeaa
open Go.RowKit
set_option linter.unusedVariables false
set_option linter.unusedSimpArgs false

/-- The first k pages of an image. -/
def imgUpto (st : List (List Int)) (k : Nat) : List Int := (st.take k).flatten
theorem imgUpto_succ (st : List (List Int)) (k : Nat) (h : k < st.length) : imgUpto st (k + 1) = imgUpto st k ++ st.getD k [] := by
  unfold imgUpto
  rw [List.take_succ_eq_append_getElem h, List.flatten_append, getD_at _ _ _ h]
  simp
theorem imgUpto_length (st : List (List Int)) (hst : ∀ b ∈ st, b.length = 256) (k : Nat) (h : k ≤ st.length) : (imgUpto st k).length = k * 256 := by
  induction k with
  | zero => simp [imgUpto]
  | succ k ih =>
    rw [imgUpto_succ st k h, List.length_append, ih (by omega), getD_at _ _ _ h, hst _ (List.getElem_mem _)]
    omega
theorem cells5z : (Value.int .u8 0).cells.size = 1 := rfl
/-- A row of bytes of one's own reads as a slice. -/
theorem ownsRow_Bs {w : World} {v : Value} {l : List Int} {n : Nat} (hn : n = l.length) (h : w.ownsRow 0 5 1 v n (u8s l)) : Bs w v l := by
  subst hn
  rcases h.2 with ⟨rfl, h0⟩ | ⟨g, cap, cur, rfl, _, hh, hc, _, hcs, ht⟩
  · have : l = [] := List.eq_nil_of_length_eq_zero h0
    subst this
    exact ⟨none, 0, rfl, Nat.le_refl _, .inl rfl⟩
  · refine ⟨some ⟨g, 0, none⟩, cap, rfl, hc, .inr ⟨g, 0, rfl, ?_⟩⟩
    have hb : Blk w g cur.toList 5 := by unfold Blk; rw [Array.toArray_toList]; exact hh
    have := hb.range 0 l.length
    rw [List.drop_zero] at this
    rw [Nat.mul_one] at ht
    rw [← ht]
    exact this

set_option maxHeartbeats 2000000 in
theorem image_at {w : World} {d : Nat} {M : DM} {F : Nat → Prop} (h : DiskAt w d M F) : Calls Try.prog 14 #[.pointer (some ⟨d, 0, none⟩)] w fun e w' =>
    ∃ v, e = .returned v ∧ Bs w' v M.st.flatten ∧ (∀ k, v.ownBlock = some k → w.heap.size ≤ k) ∧ Kp (fun _ => False) w w' := by
  have hno := Hd.mk (none_at h)
  obtain ⟨hok, S, cS, m, wv, spare, L, hp⟩ := h
  have c0 := hp.c0
  have hm : (M.st.length : Int) ≤ 2048 := by have := hok.most; omega
  have Hp := Hd.mk hp
  have Hok := Hd.mk hok
  clear hp hok
  go_enter Try.func14, Try.ntmps14
  go_wp2_with (first | (go_at_call 33; refine hno.out.mono ?_; rintro e w' ⟨rfl, rfl⟩))
  go_loopw [3, 13] (fun v3 v13 wr => ∃ k : Nat, v13 = .int .i64 k ∧ k ≤ M.st.length ∧ Hd (wr.ownsRow 0 5 1 v3 (k * 256) (u8s (imgUpto M.st k))) ∧ Hd (∀ b, v3.ownBlock = some b → w.heap.size ≤ b) ∧ Hd (Kp (fun _ => False) w wr)) (fun _ v13 _ => M.st.length - (intOf v13).toNat)
  case atStart => exact ⟨0, rfl, Nat.zero_le _, ⟨⟨by rw [u8s_length]; rfl, .inl ⟨rfl, Nat.zero_mul _⟩⟩⟩, ⟨fun b hb => by simp [Value.ownBlock] at hb⟩, ⟨Kp.refl _ _⟩⟩
  case round =>
    obtain ⟨k, rfl, hk, HO, HF, HK⟩ := hrel
    by_cases hlt : k < M.st.length
    · have hltI : (k : Int) < (M.st.length : Int) := by omega
      have Hlt := Hd.mk hlt
      have hpl : (M.st.getD k []).length = 256 := by rw [getD_at _ _ _ hlt]; exact Hok.out.st _ (List.getElem_mem _)
      have Hr := Hd.mk ((Hp.out.keep HK.out (fun _ _ => id)).page Hok.out hlt)
      have hsuc := Hd.mk (imgUpto_succ M.st k hlt)
      have hl0 := Hd.mk (imgUpto_length M.st Hok.out.st k hk)
      have hi68 := Hd.mk (show (Try.prog.info? 68).map (·.size) = some (u8s (M.st.getD k [])).length by rw [u8s_length, hpl]; exact info68)
      have hZ := Hd.mk (show Z256.length = (u8s (M.st.getD k [])).length by rw [Z256_length, u8s_length, hpl])
      have hone := Hd.mk (u8s_one (M.st.getD k []))
      have Hpl := Hd.mk hpl
      have Hm := Hd.mk hm
      generalize hpg : M.st.getD k [] = pg at *
      have HO2 := Hd.mk (ownsRow_keep HO.out (fun b hb hl => _root_.Go.heap_alloc_old wr (.cells (u8s pg).toArray 68) hl))
      have Hnew := Hd.mk (show (wr.alloc (.cells (u8s pg).toArray 68)).rangeAt wr.heap.size 0 (u8s pg) from by
        have := (Blk.new wr (u8s pg) 68).range 0 256
        rw [List.drop_zero, List.take_of_length_le (by rw [u8s_length, hpl]; exact Nat.le_refl _)] at this
        exact this)
      have Hpn := Hd.mk (show (u8s pg).length = 256 * 1 by rw [u8s_length, hpl])
      have H63 := Hd.mk (show k * 256 + 256 ≤ maxLen by simp only [maxLen]; omega)
      have H64 := Hd.mk (show (k * 256 + 256) * 1 ≤ 140737488355328 by omega)
      clear hlt hk hpl hpg
      go_wp2_with (first
        | (with_reducible refine wl_load_mid rfl 68 _ rfl S (k * 256) rfl _ Hr.out Try.underlying68 rfl hi68.out ?_)
        | (with_reducible refine wl_alloc rfl 68 rfl Z256 (zero68 _) ?_)
        | (with_reducible refine wl_store_new rfl 68 _ _ rfl Z256 (u8s pg) rfl rfl hi68.out hZ.out hone.out ?_)
        | (with_reducible refine wl_run rfl (ex_sliceWhole _ 68 _ rfl 256 Try.underlying68 info5s _ 0 rfl (by omega)) ?_)
        | ((with_reducible refine wl_append rfl _ _ 23 rfl 5 1 1 Try.underlying23 info5z cells5z Nat.one_pos _ (k * 256) (u8s (imgUpto M.st k)) rfl ?_ _ 0 256 256 (u8s pg) rfl Hpn.out Hnew.out hone.out H63.out H64.out (by omega) ?_); exact HO2.out; intro v9 w9 h91 h92 h93; have H91 := Hd.mk h91; have H92 := Hd.mk h92; have H93 := Hd.mk h93; clear h91 h92 h93))
      exact ⟨⟨k + 1, by go_num, Hlt.out, ⟨by rw [Nat.succ_mul, hsuc.out, u8s_append]; exact H91.out⟩, ⟨fun b hb => by
        rcases H93.out b hb with h | h
        · exact HF.out b h
        · have := HK.out.size
          simp at h
          omega⟩, ⟨(HK.out.alloc _).andThen H92.out (fun i hi e => by have := HF.out i e; omega)⟩⟩, by have := Hlt.out; simp [intOf]; omega⟩
    · have e : k = M.st.length := by omega
      subst e
      have hl0 := imgUpto_length M.st Hok.out.st _ (Nat.le_refl M.st.length)
      have HB := Hd.mk (ownsRow_Bs hl0.symm HO.out)
      rw [show imgUpto M.st M.st.length = M.st.flatten by simp [imgUpto]] at HB
      clear hlt hk hl0 HO
      go_wp2_with fail
      go_ret
      exact ⟨_, rfl, HB.out, HF.out, HK.out⟩
end Go.Proofs.Ytkcechpaeilaeaa
