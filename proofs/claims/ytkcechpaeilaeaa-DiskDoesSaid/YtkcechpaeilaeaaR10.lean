/- does, but for Load. -/
import Derived.Test.YtkcechpaeilaeaaR9
import Derived.Test.YtkcechpaeilaeaaL7
namespace Go.Proofs.Ytkcechpaeilaeaa
open Go.RowKit
set_option linter.unusedVariables false
set_option linter.unusedSimpArgs false
/-- Both devices are the same behind an act, with one write or sync more at most. -/
def Step (w0 w w' : World) (d r : Nat) (M : DM) (X : Nat → Prop) : Prop := (∃ M', Tw w0 w' d r M' M' X ∧ M'.ops ≤ M.ops + 1 ∧ M'.ws.length ≤ M.ws.length + 1) ∧ KeepX X w w'
theorem spends_grow (M : DM) : (spendsM M).ops ≤ M.ops + 1 ∧ (spendsM M).ws = M.ws := by
  unfold spendsM
  split
  · exact ⟨by show M.ops ≤ _; omega, rfl⟩
  · exact ⟨by show M.ops + 1 ≤ _; omega, rfl⟩
theorem dw_grow (M : DM) (p : Int) (l : List Int) : (dwM M p l).ops ≤ M.ops + 1 ∧ (dwM M p l).ws.length ≤ M.ws.length + 1 := by
  unfold dwM
  split
  · have := spends_grow (appM M p.toNat l)
    unfold writeM
    rw [this.2]
    exact ⟨this.1, by simp [appM]⟩
  · omega
theorem sync_grow (M : DM) : (syncM M).ops ≤ M.ops + 1 ∧ (syncM M).ws.length ≤ M.ws.length + 1 := by
  have := spends_grow M
  unfold syncM
  split
  · omega
  · split
    · exact ⟨this.1, by simp [settleM]⟩
    · rw [this.2]; omega
theorem arm_grow (M : DM) (n : Int) : (armM M n).ops ≤ M.ops + 1 ∧ (armM M n).ws.length ≤ M.ws.length + 1 := by
  unfold armM
  split
  · omega
  · exact ⟨by show M.ops ≤ _; omega, by show M.ws.length ≤ _; omega⟩
theorem calm_grow (M : DM) : (calmM M).ops ≤ M.ops + 1 ∧ (calmM M).ws.length ≤ M.ws.length + 1 := by
  unfold calmM
  split
  · omega
  · exact ⟨by show M.ops ≤ _; omega, by show M.ws.length ≤ _; omega⟩
theorem crash_grow' (M : DM) (pick : List Int) : (crashM M pick).ops ≤ M.ops + 1 ∧ (crashM M pick).ws.length ≤ M.ws.length + 1 := ⟨by show M.ops ≤ _; omega, by simp [crashM, wakeM]⟩
theorem dl_grow (M : DM) (img : List Int) : (dlM M img).ops ≤ M.ops + 1 ∧ (dlM M img).ws.length ≤ M.ws.length + 1 := by
  unfold dlM
  split
  · exact ⟨by show M.ops ≤ _; omega, by simp [loadM, wakeM]⟩
  · omega
theorem KeepX.blk {X : Nat → Prop} {w w' : World} (h : KeepX X w w') {b : Nat} {cs : List Value} {t : TypeId} (hb : Blk w b cs t) (hX : X b) : Blk w' b cs t := (h b hX).trans hb
theorem KeepX.cell {X : Nat → Prop} {w w' : World} (h : KeepX X w w') {b i : Nat} {u : Value} (hb : w.cell? ⟨b, i, none⟩ = some u) (hX : X b) : w'.cell? ⟨b, i, none⟩ = some u := (World.cell?_of_block (h b hX)).trans hb
section
variable {w0 w : World} {d r : Nat} {M : DM} {X : Nat → Prop} {xa xp xn : Int} {xb xpick : List Int} {Ab Ap : Option Addr} {cb cp : Nat}
abbrev CLS (xa xp xn : Int) (vb vp : Value) : List Value := [.int .i64 xa, .int .i64 xp, .int .i64 xn, vb, vp]
abbrev WX (X : Nat → Prop) (w : World) (k : Nat) : Prop := X k ∨ k = w.heap.size
theorem tw_box (h : Tw w0 w d r M M X) (vb vp : Value) : Tw w0 (w.alloc (.cells (CLS xa xp xn vb vp).toArray 34)) d r M M (WX X w) :=
  h.fence ((Kp.refl _ w).alloc _) (fun b hb => hb.imp id (fun e => by subst e; simp))
set_option maxRecDepth 20000 in
set_option maxHeartbeats 2000000 in
theorem does_other (h : Tw w0 w d r M M X) (vb vp : Value) (ha : xa < 0 ∨ 6 < xa) :
    Calls Try.prog 22 #[.pointer (some ⟨d, 0, none⟩), .pointer (some ⟨r, 0, none⟩), .agg #[.int .i64 xa, .int .i64 xp, .int .i64 xn, vb, vp]] w fun e w' => e = .returned (.bool true) ∧ Step w0 w w' d r M X := by
  have H := Hd.mk h
  have e0 : (xa == 0) = false := by simp; omega
  have e1 : (xa == 1) = false := by simp; omega
  have e2 : (xa == 2) = false := by simp; omega
  have e3 : (xa == 3) = false := by simp; omega
  have e4 : (xa == 4) = false := by simp; omega
  have e5 : (xa == 5) = false := by simp; omega
  have e6 : (xa == 6) = false := by simp; omega
  clear h ha
  go_enter Try.func22, Try.ntmps22
  go_wp2_with fail
  go_ret
  exact ⟨rfl, ⟨M, H.out.old ((Kp.refl _ _).alloc _), by omega, by omega⟩, H.out.keepOld ((Kp.refl _ _).alloc _)⟩
set_option maxRecDepth 20000 in
set_option maxHeartbeats 2000000 in
theorem does_sync (h : Tw w0 w d r M M X) (vb vp : Value) (hops : M.ops < 1073741824) :
    Calls Try.prog 22 #[.pointer (some ⟨d, 0, none⟩), .pointer (some ⟨r, 0, none⟩), .agg #[.int .i64 2, .int .i64 xp, .int .i64 xn, vb, vp]] w fun e w' => e = .returned (.bool true) ∧ Step w0 w w' d r M X := by
  have H := Hd.mk (h.old ((Kp.refl (fun _ => False) w).alloc (.cells (CLS 2 xp xn vb vp).toArray 34)))
  have K0 := Hd.mk (h.keepOld ((Kp.refl (fun _ => False) w).alloc (.cells (CLS 2 xp xn vb vp).toArray 34)))
  have Hops := Hd.mk hops
  clear h hops
  go_enter Try.func22, Try.ntmps22
  go_wp2_with (first
    | (go_at_call 16; (with_reducible refine (tw_dsync H.out Hops.out).mono ?_); rintro e w1 ⟨rfl, h1, k1⟩; have H1 := Hd.mk h1; have K1 := Hd.mk k1; clear h1 k1)
    | (go_at_call 43; (with_reducible refine (tw_rsync H1.out Hops.out).mono ?_); rintro e w2 ⟨rfl, h2, k2⟩; have H2 := Hd.mk h2; have K2 := Hd.mk k2; clear h2 k2))
  go_ret
  exact ⟨ret_bool (by simp), ⟨_, H2.out, sync_grow M⟩, K0.out.trans (K1.out.trans K2.out)⟩
set_option maxRecDepth 20000 in
set_option maxHeartbeats 2000000 in
theorem does_calm (h : Tw w0 w d r M M X) (vb vp : Value) :
    Calls Try.prog 22 #[.pointer (some ⟨d, 0, none⟩), .pointer (some ⟨r, 0, none⟩), .agg #[.int .i64 4, .int .i64 xp, .int .i64 xn, vb, vp]] w fun e w' => e = .returned (.bool true) ∧ Step w0 w w' d r M X := by
  have H := Hd.mk (h.old ((Kp.refl (fun _ => False) w).alloc (.cells (CLS 4 xp xn vb vp).toArray 34)))
  have K0 := Hd.mk (h.keepOld ((Kp.refl (fun _ => False) w).alloc (.cells (CLS 4 xp xn vb vp).toArray 34)))
  clear h
  go_enter Try.func22, Try.ntmps22
  go_wp2_with (first
    | (go_at_call 26; (with_reducible refine (tw_dcalm H.out).mono ?_); rintro e w1 ⟨rfl, h1, k1⟩; have H1 := Hd.mk h1; have K1 := Hd.mk k1; clear h1 k1)
    | (go_at_call 45; (with_reducible refine (tw_rcalm H1.out).mono ?_); rintro e w2 ⟨rfl, h2, k2⟩; have H2 := Hd.mk h2; have K2 := Hd.mk k2; clear h2 k2))
  go_ret
  exact ⟨ret_bool (by simp), ⟨_, H2.out, calm_grow M⟩, K0.out.trans (K1.out.trans K2.out)⟩
set_option maxRecDepth 20000 in
set_option maxHeartbeats 2000000 in
theorem does_crash (h : Tw w0 w d r M M X) (vb : Value) (hp : Bs w0 (.slice Ap xpick.length cp) xpick) (hby : Bytes xpick) :
    Calls Try.prog 22 #[.pointer (some ⟨d, 0, none⟩), .pointer (some ⟨r, 0, none⟩), .agg #[.int .i64 5, .int .i64 xp, .int .i64 xn, vb, .slice Ap xpick.length cp]] w fun e w' => e = .returned (.bool true) ∧ Step w0 w w' d r M X := by
  have H := Hd.mk (tw_box (xa := 5) (xp := xp) (xn := xn) h vb (.slice Ap xpick.length cp))
  have K0 := Hd.mk (h.keepOld ((Kp.refl (fun _ => False) w).alloc (.cells (CLS 5 xp xn vb (.slice Ap xpick.length cp)).toArray 34)))
  have Hp : Hd (∀ w', Old w0 w' → Bs w' (.slice Ap xpick.length cp) xpick) := ⟨fun w' k => hp.keep (fun b hb _ => k.block b hb id)⟩
  have Hin : Hd (xpick ≠ [] → ∀ k, (Value.slice Ap xpick.length cp).ownBlock = some k → k < w0.heap.size) := ⟨fun hne k hk => hp.inblk hne k hk⟩
  have Hby := Hd.mk hby
  have hB := Hd.mk (Blk.new w (CLS 5 xp xn vb (.slice Ap xpick.length cp)) 34)
  clear h hp hby
  go_enter Try.func22, Try.ntmps22
  go_wp2_with (first
    | (go_at_call 46; (with_reducible refine (tw_rcrash H.out (Hp.out _ H.out.since) Hby.out (fun hne k hk => .inr (Hin.out hne k hk))).mono ?_); rintro e w1 ⟨rfl, h1, hk1⟩; have H1 := Hd.mk h1; have hc4 : w1.cell? ⟨w.heap.size, 4, none⟩ = some (.slice Ap xpick.length cp) := hk1.cell ((Blk.cell hB.out 4).trans rfl) (.inr rfl); have K1 := Hd.mk hk1; clear h1 hk1)
    | (go_at_call 13; (with_reducible refine (tw_dcrash H1.out (Hp.out _ H1.out.since) Hby.out (fun hne k hk => .inr (Hin.out hne k hk))).mono ?_); rintro e w2 ⟨rfl, h2, k2⟩; have H2 := Hd.mk h2; have K2 := Hd.mk k2; clear h2 k2))
  go_ret
  exact ⟨rfl, ⟨_, H2.out.sub (fun b hb => .inl hb), crash_grow' M xpick⟩, K0.out.trans ((K1.out.trans K2.out).sub (fun b hb => .inl hb))⟩
end
end Go.Proofs.Ytkcechpaeilaeaa
