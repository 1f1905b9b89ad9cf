/- The reference's device: New. -/
import Derived.Test.YtkcechpaeilaeaaR6
namespace Go.Proofs.Ytkcechpaeilaeaa
open Go.RowKit
set_option linter.unusedVariables false
set_option linter.unusedSimpArgs false
section
variable {P : Program} {o : Oper} {a : Act}
theorem ex_make (w w' : World) (t : TypeId) (x y : Operand) (v : Value) (ho : o.op = .makeSlice t x y) (hr : (Instr.makeSlice t (a.eval x) (a.eval y)).run P w = .ok v w') : (execOp a.eval o).run P w = .ok (.value v) w' := by
  unfold execOp
  simp only [ho, Sem.run_bind, hr, Result.andThen_ok]
  rfl
end
theorem info42z : (Try.prog.info? 42).map (fun i => (i.zero, i.size, i.bytes)) = some (some (.slice none 0 0), 1, 24) := by kernel_rfl
theorem info23zz : (Try.prog.info? 23).map (fun i => (i.zero, i.size, i.bytes)) = some (some (.slice none 0 0), 1, 24) := by kernel_rfl
theorem zero23 (w : World) : (zeroValue 23).run Try.prog w = .ok (.slice none 0 0) w := by kernel_rfl
theorem zero78 (w : World) : (zeroValue 78).run Try.prog w = .ok (.agg [Value.slice none 0 0, .slice none 0 0, .int .i64 0, .bool false, .int .i64 0].toArray) w := by kernel_rfl
theorem zpage_cells : List.replicate 256 (Value.int .u8 0) = u8s zpage := by
  unfold zpage u8s
  rw [List.map_replicate]
theorem Blk_range' {w : World} {b : Nat} {t : TypeId} {cs : List Value} (h : Blk w b cs t) : w.rangeAt b 0 cs := fun j v hv => by rw [Nat.zero_add, Blk.cell h]; exact hv
/-- One page more. -/
theorem rnew_push {w1 w2 w3 : World} {r k : Nat} {G : Nat → Prop} {sv v v3 : Value} {ss : List Value} (Hp : RefP w1 r (newM k) G sv (.slice none 0 0) ss []) (hk2 : Kp (fun _ => False) w1 w2) (hv : w2.ownsRow 0 5 1 v 256 (u8s zpage)) (hvf : ∀ k, v.ownBlock = some k → w1.heap.size ≤ k)
    (ho3 : w3.ownsRow 0 23 1 v3 (k + 1) (ss ++ [v])) (hk3 : Kp (fun k => sv.ownBlock = some k) w2 w3) (hf3 : ∀ k, v3.ownBlock = some k → sv.ownBlock = some k ∨ w2.heap.size ≤ k) :
    RefP (w3.setCell ⟨r, 0, none⟩ v3) r (newM (k + 1)) (fun x => G x ∨ (w1.heap.size ≤ x ∧ x < w3.heap.size)) v3 (.slice none 0 0) (ss ++ [v]) [] ∧ Kp G w1 (w3.setCell ⟨r, 0, none⟩ v3) ∧ w3.cell? ⟨r, 0, none⟩ = some sv ∧ w3.frozen? ⟨r, 0, none⟩ = false := by
  have hs2 := hk2.size
  have hs3 := hk3.size
  have hkw : Kp (fun k => sv.ownBlock = some k) w1 w3 := (hk2.mono (fun _ _ h => h.elim)).trans hk3
  have hb3 : Blk w3 r _ 78 := hkw.keeps Hp.blk Hp.s_ne
  have hset : ∀ k, k ≠ r → (w3.setCell ⟨r, 0, none⟩ v3).heap[k]? = w3.heap[k]? := fun k hk => heap_setCell_other w3 ⟨r, 0, none⟩ k v3 (fun e => hk e)
  have hkp : Kp G w1 (w3.setCell ⟨r, 0, none⟩ v3) := (hkw.mono (fun k _ h => Hp.gs k h)).setCell _ _ (.inr Hp.gr)
  have hpg : ∀ {u : Value} {m : List Int}, Pg w1 G u m → Pg (w3.setCell ⟨r, 0, none⟩ v3) (fun x => G x ∨ (w1.heap.size ≤ x ∧ x < w3.heap.size)) u m := fun {u m} h => h.keep (fun _ => .inl) (fun k hk => by
    rw [hset k (fun e => Hp.p_ne h (by rw [hk, e]))]
    refine hkw.block k (Hp.lt k (h.2 k hk)) (fun e => ?_)
    obtain ⟨cells, hc⟩ := ownsRow_typed Hp.srow e
    have := h.type hk hc
    cases this)
  have hnew : Pg (w3.setCell ⟨r, 0, none⟩ v3) (fun x => G x ∨ (w1.heap.size ≤ x ∧ x < w3.heap.size)) v zpage := by
    refine ⟨ownsRow_keep hv (fun k hk hlk => ?_), fun k hk => .inr ⟨hvf k hk, ?_⟩⟩
    · rw [hset k (fun e => by have := hvf k hk; have := Hp.lt _ Hp.gr; omega), hk3.block k hlk (fun e => by have := hvf k hk; have := Hp.lt k (Hp.gs k e); omega)]
    · have := (hv.lt k hk).2; omega
  have hl1 : (newM (k + 1)).st.length = k + 1 := by simp [newM]
  have hl0 : (newM k).st.length = k := by simp [newM]
  have hsl : ss.length = k := by have := Hp.slen; omega
  refine ⟨⟨hb3.set 0 v3, ?_, ⟨rfl, .inl ⟨rfl, rfl⟩⟩, by rw [hl1]; simp [hsl], rfl, fun i u hu => ?_, fun i x hx => by simp at hx, .inl Hp.gr, fun x hx => ?_, fun x hx => by simp [Value.ownBlock] at hx, fun x hx => ?_⟩, hkp, by rw [hb3.cell]; rfl, hb3.free 0⟩
  · rw [hl1]
    refine ownsRow_keep ho3 (fun k hk _ => hset k (fun e => ?_))
    subst e
    have := ownsRow_type ho3 hk hb3
    cases this
  · rcases Nat.lt_or_ge i k with hi | hi
    · rw [List.getElem?_append_left (by omega)] at hu
      have h1 := Hp.spg i u hu
      have e1 : (newM k).st.getD i [] = (newM (k + 1)).st.getD i [] := by
        simp [newM, List.getD_eq_getElem?_getD, List.getElem?_replicate, hi, Nat.lt_succ_of_lt hi]
      rw [← e1]
      exact hpg h1
    · have hie : i = ss.length := by
        have := (List.getElem?_eq_some_iff.1 hu).1
        simp at this; omega
      subst hie
      rw [List.getElem?_append_right (Nat.le_refl _), Nat.sub_self] at hu
      injection hu with hu
      subst hu
      have e1 : (newM (k + 1)).st.getD ss.length [] = zpage := by
        simp [newM, List.getD_eq_getElem?_getD, List.getElem?_replicate, hsl]
      rw [e1]
      exact hnew
  · rcases hf3 x hx with h | h
    · exact .inl (Hp.gs x h)
    · exact .inr ⟨by omega, (ho3.lt x hx).2⟩
  · rw [World.size_setCell]
    rcases hx with hx | hx
    · have := Hp.lt x hx; omega
    · exact hx.2
theorem rnew_no (w : World) (n : Int) (h : n < 8 ∨ 2048 < n) : Calls Try.prog 21 #[.int .i64 n] w fun e w' => e = .returned (.tuple #[.pointer none, .int .i64 1]) ∧ w = w' := by
  rcases h with h | h
  · have hb : decide (n < 8) = true := by simpa using h
    go_enter Try.func21, Try.ntmps21
    go_wp2_with fail
    go_ret2
    exact ⟨rfl, rfl⟩
  · have hb : decide (n < 8) = false := by simp; omega
    have h8 : 8 ≤ n := by omega
    go_enter Try.func21, Try.ntmps21
    go_wp2_with fail
    go_ret2
    exact ⟨rfl, rfl⟩
set_option maxRecDepth 20000 in
set_option maxHeartbeats 2000000 in
theorem rnew_yes (w : World) (n : Nat) (h0 : 8 ≤ n) (h1 : n ≤ 2048) : Calls Try.prog 21 #[.int .i64 n] w fun e w' =>
    ∃ r G, e = .returned (.tuple #[.pointer (some ⟨r, 0, none⟩), .int .i64 0]) ∧ RefAt w' r (newM n) G ∧ (∀ k, G k → w.heap.size ≤ k) ∧ Kp (fun _ => False) w w' := by
  have a0 : (8 : Int) ≤ n := by omega
  have a1 : (n : Int) ≤ 2048 := by omega
  have b0 : decide ((n : Int) < 8) = false := by simp; omega
  have b1 : decide ((2048 : Int) < n) = false := by simp; omega
  have Hn := Hd.mk (And.intro h0 h1)
  have hst : Hd (RefP (w.alloc (.cells [Value.slice none 0 0, .slice none 0 0, .int .i64 (-1), .bool false, .int .i64 0].toArray 78)) w.heap.size (newM 0) (fun x => x = w.heap.size) (.slice none 0 0) (.slice none 0 0) [] []) := ⟨{
    blk := Blk.new w _ 78
    srow := ⟨rfl, .inl ⟨rfl, rfl⟩⟩
    wrow := ⟨rfl, .inl ⟨rfl, rfl⟩⟩
    slen := rfl
    wlen := rfl
    spg := fun i v hv => by simp at hv
    wpg := fun i x hx => by simp at hx
    gr := rfl
    gs := fun k hk => by simp [Value.ownBlock] at hk
    gw := fun k hk => by simp [Value.ownBlock] at hk
    lt := fun k hk => by subst hk; simp }⟩
  clear h0 h1
  go_enter Try.func21, Try.ntmps21
  go_wp2_with fail
  clear b0 b1
  go_loopw [5] (fun v5 wr => ∃ (k : Nat) (sv : Value) (ss : List Value) (G : Nat → Prop), v5 = .int .i64 k ∧ k ≤ n ∧ Hd (RefP wr w.heap.size (newM k) G sv (.slice none 0 0) ss []) ∧ Hd (∀ x, G x → w.heap.size ≤ x) ∧ Hd (Kp (fun _ => False) w wr)) (fun v5 _ => n - (intOf v5).toNat)
  case atStart => exact ⟨0, _, _, _, rfl, Nat.zero_le _, hst, ⟨fun x hx => by subst hx; exact Nat.le_refl _⟩, ⟨(Kp.refl _ _).alloc _⟩⟩
  case round =>
    obtain ⟨k, sv, ss, G, rfl, hk, HD, HG, HK⟩ := hrel
    by_cases hlt : k < n
    · have hltI : (k : Int) < (n : Int) := by omega
      have Hlt := Hd.mk hlt
      have hl0 : (newM k).st.length = k := by simp [newM]
      have hsr := HD.out.srow
      rw [hl0] at hsr
      obtain ⟨A, c, rfl, -⟩ := ownsRow_len hsr
      have Hsr := Hd.mk hsr
      have hS : Hd ((fun W : World => W.cell? ⟨w.heap.size, 0, none⟩ = some (.slice A k c)) wr.drew) := ⟨HD.out.c0⟩
      have H63 := Hd.mk (show k + 1 ≤ maxLen by simp only [maxLen]; have := Hn.out.2; omega)
      have H64 := Hd.mk (show (k + 1) * 24 ≤ 140737488355328 by have := Hn.out.2; omega)
      clear hlt hk hl0 hsr
      go_wp2_with fail
      refine rn_begin (fun W : World => W.cell? ⟨w.heap.size, 0, none⟩ = some (.slice A k c)) (List.range 8) (by kernel_rfl) ?_
      refine rn_take (i := 0) (dst := some 19) (v := .pointer (some ⟨w.heap.size, 0, none⟩)) rfl (by kernel_rfl) (fun _ _ _ h => h) rfl rfl (fun W hW => ex_move W _ _ rfl rfl) hS.out ?_
      simp only [Act.put, List.setIfInBounds_toArray, List.set_cons_zero, List.set_cons_succ]
      refine rn_take (i := 1) (dst := some 20) (v := .pointer (some ⟨w.heap.size, 0, none⟩)) rfl (by kernel_rfl) (fun _ _ _ h => h) rfl rfl (fun W hW => ex_move W _ _ rfl rfl) hS.out ?_
      simp only [Act.put, List.setIfInBounds_toArray, List.set_cons_zero, List.set_cons_succ]
      refine rn_take (i := 2) (dst := some 21) (v := .pointer (some ⟨w.heap.size, 0, none⟩)) rfl (by kernel_rfl) (fun _ _ _ h => h) rfl rfl (fun W hW => ex_nilCheck W _ _ rfl rfl) hS.out ?_
      simp only [Act.put, List.setIfInBounds_toArray, List.set_cons_zero, List.set_cons_succ]
      refine rn_take (i := 3) (dst := some 22) (v := .pointer (some ⟨w.heap.size, 0, none⟩)) rfl (by kernel_rfl) (fun _ _ _ h => h) rfl rfl (fun W hW => er_field W 78 0 _ rfl w.heap.size 0 0 0 0 (by first | rfl | omega) Try.underlying78 rfl (by kernel_rfl) rfl rfl) hS.out ?_
      simp only [Act.put, List.setIfInBounds_toArray, List.set_cons_zero, List.set_cons_succ]
      refine rn_take (i := 4) (dst := some 23) (v := .slice A k c) rfl (by kernel_rfl) (fun _ _ _ h => h) rfl rfl (fun W hW => ex_load W 42 _ _ rfl ⟨w.heap.size, 0, none⟩ Try.underlying42 rfl rfl (hW)) hS.out ?_
      simp only [Act.put, List.setIfInBounds_toArray, List.set_cons_zero, List.set_cons_succ]
      refine rn_one (i := 5) (dst := some 24) rfl (by kernel_rfl) rfl rfl (fun K hK => ?_)
      have hmk := run_make_bytes wr.drew 256 (by omega)
      rw [zpage_cells] at hmk
      have k1 : Kp (fun _ => False) wr (wr.drew.alloc (.cells (u8s zpage).toArray 5)) := ((Kp.refl _ wr).drew).alloc _
      have hD1 := HD.out.keep k1 (fun _ _ => id)
      refine ow_run (ex_make _ _ 23 _ _ _ rfl hmk) (hK _ _ (fun _ => hD1.c0) ?_)
      clear hK K hS
      have hS : Hd ((fun W : World => W.cell? ⟨w.heap.size, 0, none⟩ = some (.slice A k c)) (wr.drew.alloc (.cells (u8s zpage).toArray 5))) := ⟨hD1.c0⟩
      have hv1 : (wr.drew.alloc (.cells (u8s zpage).toArray 5)).ownsRow 0 5 1 (.slice (some ⟨wr.heap.size, 0, none⟩) 256 256) 256 (u8s zpage) := ⟨by simp [u8s, zpage], .inr ⟨wr.heap.size, 256, (u8s zpage).toArray, rfl, Nat.zero_le _, heap_alloc_new wr.drew _, Nat.le_refl _, by decide, by simp [u8s, zpage], by
        rw [List.take_of_length_le (by simp [u8s, zpage])]⟩⟩
      simp only [Act.put, List.setIfInBounds_toArray, List.set_cons_zero, List.set_cons_succ]
      refine rn_one (i := 6) (dst := some 25) rfl (by kernel_rfl) rfl rfl (fun K hK => ?_)
      have k2 : Kp (fun _ => False) wr ((wr.drew.alloc (.cells (u8s zpage).toArray 5)).alloc (.cells [Value.slice (some ⟨wr.heap.size, 0, none⟩) 256 256].toArray 23)) := k1.alloc _
      have hD2 := HD.out.keep k2 (fun _ _ => id)
      have hv2 := ownsRow_keep (w' := ((wr.drew.alloc (.cells (u8s zpage).toArray 5)).alloc (.cells [Value.slice (some ⟨wr.heap.size, 0, none⟩) 256 256].toArray 23))) hv1 (fun b _ hl => _root_.Go.heap_alloc_old _ _ hl)
      have hn2 := Blk_range' (Blk.new (wr.drew.alloc (.cells (u8s zpage).toArray 5)) [Value.slice (some ⟨wr.heap.size, 0, none⟩) 256 256] 23)
      refine ow_run (ex_bs1 _ 42 23 _ rfl Try.underlying42 [Value.slice (some ⟨wr.heap.size, 0, none⟩) 256 256] rfl (.slice none 0 0) [.slice none 0 0] (zero23 _) rfl (by kernel_rfl) rfl (by simp) (by simp)) (hK _ _ (fun _ => hD2.c0) ?_)
      clear hK K hS hv1
      simp only [Act.put, List.setIfInBounds_toArray, List.set_cons_zero, List.set_cons_succ]
      have hs2 := hD2.srow
      rw [show (newM k).st.length = k from by simp [newM]] at hs2
      refine rn_one (i := 7) (dst := some 26) rfl (by kernel_rfl) rfl rfl (fun K hK => ?_)
      refine ow_append _ _ 42 rfl 23 1 24 Try.underlying42 info23zz rfl (by omega) (.slice A k c) k ss rfl hs2 _ 0 1 1 [.slice (some ⟨wr.heap.size, 0, none⟩) 256 256] rfl rfl hn2 (by intro u hu; simp at hu; subst hu; rfl) H63.out H64.out (by omega) (fun v3 w3 ho3 hk3 hf3 => ?_)
      obtain ⟨hR, hKp, hc3, hfr3⟩ := rnew_push HD.out k2 hv2 (fun x hx => by simp [Value.ownBlock] at hx; omega) ho3 hk3 hf3
      obtain ⟨A3, n3, rfl, -⟩ := ownsRow_len ho3
      have HR := Hd.mk hR
      have HKp := Hd.mk hKp
      have Hc3 := Hd.mk hc3
      have Hf3 := Hd.mk hfr3
      refine hK _ _ (fun _ => hc3) ?_
      clear hK K hR hKp hk3 ho3 hf3 hn2 hc3 hfr3 hs2 hv2 k1 k2 hD1 hD2 hmk
      have hS : Hd ((fun W : World => W.cell? ⟨w.heap.size, 0, none⟩ = some (.slice A k c)) w3) := ⟨Hc3.out⟩
      simp only [Act.put, List.setIfInBounds_toArray, List.set_cons_zero, List.set_cons_succ]
      refine rn_takeT [9, 10] (i := 8) (dst := some 27) (v := .pointer (some ⟨w.heap.size, 0, none⟩)) rfl (by kernel_rfl) (fun _ _ _ h => h) rfl rfl (fun W hW => ex_nilCheck W _ _ rfl rfl) hS.out ?_
      simp only [Act.put, List.setIfInBounds_toArray, List.set_cons_zero, List.set_cons_succ]
      refine rn_take (i := 9) (dst := some 28) (v := .pointer (some ⟨w.heap.size, 0, none⟩)) rfl (by kernel_rfl) (fun _ _ _ h => h) rfl rfl (fun W hW => er_field W 78 0 _ rfl w.heap.size 0 0 0 0 (by first | rfl | omega) Try.underlying78 rfl (by kernel_rfl) rfl rfl) hS.out ?_
      simp only [Act.put, List.setIfInBounds_toArray, List.set_cons_zero, List.set_cons_succ]
      refine rn_one (i := 10) (dst := none) rfl (by kernel_rfl) rfl rfl (fun K hK => ?_)
      refine ow_store 42 _ _ (.slice A3 (k + 1) n3) (.slice A k c) rfl ⟨w.heap.size, 0, none⟩ (by kernel_rfl) rfl rfl rfl rfl Hc3.out Hf3.out (hK _ _ (fun h => by simp at h) ?_)
      clear hK K hS
      refine rn_done (by kernel_rfl) ?_ _
      simp only [Act.put, List.setIfInBounds_toArray, List.set_cons_zero, List.set_cons_succ]
      generalize w3.setCell ⟨w.heap.size, 0, none⟩ (.slice A3 (k + 1) n3) = w4 at *
      go_wp2_with fail
      exact ⟨⟨k + 1, _, _, _, by go_num, Hlt.out, HR, ⟨fun x hx => by
        rcases hx with hx | hx
        · exact HG.out x hx
        · have := HK.out.size; omega⟩, ⟨HK.out.andThen HKp.out (fun i hi e => by have := HG.out i e; omega)⟩⟩, by have := Hlt.out; simp [intOf]; omega⟩
    · have e : k = n := by omega
      subst e
      clear hlt hk
      go_wp2_with fail
      go_ret2
      exact ⟨_, G, rfl, ⟨newM_ok k (by have := Hn.out.1; omega) Hn.out.2, _, _, _, _, HD.out⟩, HG.out, HK.out⟩
end Go.Proofs.Ytkcechpaeilaeaa
