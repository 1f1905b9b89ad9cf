/- Write. -/
import Derived.Test.YtkcechpaeilaeaaL1
import Derived.Test.YtkcechpaeilaeaaEx
import Derived.StillTailTactics
namespace Go.Proofs.Ytkcechpaeilaeaa
open Go.RowKit
set_option linter.unusedVariables false
set_option linter.unusedSimpArgs false

def Z257 : List Value := .int .i64 0 :: Z256
theorem zero70 (w : World) : (zeroValue 70).run Try.prog w = .ok (.agg Z257.toArray) w := by kernel_rfl
theorem info70 : (Try.prog.info? 70).map (·.size) = some 257 := by kernel_rfl
theorem info70z : (Try.prog.info? 70).map (fun i => (i.zero, i.size, i.bytes)) = some (some (.agg Z257.toArray), 257, 264) := by kernel_rfl
theorem Z257_length : Z257.length = 257 := by simp [Z257, Z256_length]
/-- The struct of a write, built. -/
theorem fill70 (p : Int) (pg : List Int) (hl : pg.length = 256) : Instr.fill (#[(0, 1), (1, 256)][·]?) Z257.toArray [(0, .int .i64 p), (1, .agg (u8s pg).toArray)] = some (Value.int .i64 p :: u8s pg).toArray := by
  have e1 := fill_step (#[(0, 1), (1, 256)][·]?) Z257 [.int .i64 p] 0 0 (.int .i64 p) rfl [(1, .agg (u8s pg).toArray)] rfl (by simp [Z257_length])
  rw [e1]
  have hs : (splice Z257 0 [.int .i64 p]).length = 257 := by rw [splice_length (by simp [Z257_length]), Z257_length]
  have e2 := fill_step (#[(0, 1), (1, 256)][·]?) (splice Z257 0 [.int .i64 p]) (u8s pg) 1 1 (.agg (u8s pg).toArray) rfl [] (by simp [hl]) (by rw [hs, u8s_length, hl]; exact Nat.le_refl _)
  rw [e2, Instr.fill]
  refine congrArg some (congrArg List.toArray ?_)
  unfold splice
  have h1 : (List.take 0 Z257 ++ [Value.int .i64 p] ++ List.drop (0 + [Value.int .i64 p].length) Z257) = .int .i64 p :: Z256 := by simp [Z257]
  rw [h1]
  simp only [List.take_succ_cons, List.take_zero, List.cons_append, List.nil_append, List.append_cancel_left_eq, u8s_length, hl]
  simp [Z256_length, List.drop_of_length_le]

theorem info58s : (Try.prog.info? 58).map (·.size) = some (0 + 1) := by kernel_rfl
def appM (M : DM) (p : Nat) (b : List Int) : DM := { M with ws := M.ws ++ [(p, b)] }
def writeM (M : DM) (p : Nat) (b : List Int) : DM := spendsM (appM M p b)
def writeE (M : DM) : Int := if spendsB M then 0 else 5
theorem spendsB_app (M : DM) (p : Nat) (b : List Int) : spendsB (appM M p b) = spendsB M := rfl
theorem lastI_append (p q : Nat) (b : List Int) (ws : List (Nat × List Int)) : lastI p (ws ++ [(q, b)]) = if q = p then some ws.length else lastI p ws := by
  induction ws with
  | nil => simp [lastI]
  | cons x r ih =>
    simp only [List.cons_append, lastI, ih, List.length_cons]
    by_cases h : q = p
    · simp [h]
    · simp [h]
theorem showsAt_append (p : Nat) (b : List Int) (ws : List (Nat × List Int)) (L : List (Int × Value)) (hL : ∀ k : Int, mget L k = showsAt ws k) (k : Int) : mget (mput L (p : Int) (.int .i64 (ws.length : Int))) k = showsAt (ws ++ [(p, b)]) k := by
  rw [mget_mput, hL]
  unfold showsAt
  rw [lastI_append]
  by_cases hk : 0 ≤ k
  · rw [if_pos hk, if_pos hk]
    by_cases e : p = k.toNat
    · rw [if_pos (by omega), if_pos e]; rfl
    · rw [if_neg (by omega), if_neg e]
  · rw [if_neg hk, if_neg hk, if_neg (by omega)]

theorem write_no {w : World} {d : Nat} {M : DM} {F : Nat → Prop} (h : DiskAt w d M F) (p : Int) (A : Option Addr) (n c : Nat) (hno : (atE M p n != 0) = true) :
    Calls Try.prog 12 #[.pointer (some ⟨d, 0, none⟩), .int .i64 p, .slice A n c] w fun e w' => e = .returned (.int .i64 (atE M p n)) ∧ w = w' := by
  have hat := Hd.mk (at_at h p n)
  generalize atE M p n = x at *
  clear h
  go_enter Try.func12, Try.ntmps12
  go_wp2_with (first | (go_at_call 31; refine hat.out.mono ?_; rintro e w' ⟨rfl, rfl⟩))
  go_ret
  exact ⟨rfl, rfl⟩

/-- The device behind a write's three steps: the map's store, the append, the store of the row. -/
theorem write_join {w w1 w2 w3 : World} {d : Nat} {M : DM} {F : Nat → Prop} {S cS m : Nat} {wv v3 : Value} {spare : List Value} {L : List (Int × Value)} {p : Nat} {l : List Int} (hok : M.Ok) (hpl : p < M.st.length) (hl : l.length = 256) (hfew : M.ws.length < 1073741824)
    (Hp : DiskP w d M F S cS m wv spare L) (hk1 : Kp (· = m) w w1) (hm1 : IMap w1 m (mput L (p : Int) (.int .i64 M.ws.length))) (hk2 : Kp (fun _ => False) w1 w2)
    (ho3 : w3.ownsRow 0 70 257 v3 (M.ws.length + 1) (wcells M.ws ++ wcell (p, l))) (hk3 : Kp (fun k => wv.ownBlock = some k) w2 w3) (hf3 : ∀ k, v3.ownBlock = some k → wv.ownBlock = some k ∨ w2.heap.size ≤ k) :
    DiskAt (w3.setCell ⟨d, 1, none⟩ v3) d (appM M p l) (fun k => F k ∨ (w.heap.size ≤ k ∧ k < w3.heap.size)) ∧ Kp F w (w3.setCell ⟨d, 1, none⟩ v3) ∧ w3.cell? ⟨d, 1, none⟩ = some wv ∧ w3.frozen? ⟨d, 1, none⟩ = false := by
  have hs1 := hk1.size
  have hs2 := hk2.size
  have hs3 := hk3.size
  have hk12 : Kp (· = m) w w2 := hk1.andThen hk2 (fun _ _ h => h.elim)
  have hb2 := hk12.keeps Hp.blk (fun e => Hp.m_ne Hp.blk e.symm)
  have hb3 : Blk w3 d _ 61 := hk3.keeps hb2 (Hp.w_ne Hp.blk (by decide))
  have hst2 := hk12.keeps Hp.stb (fun e => Hp.m_ne Hp.stb e.symm)
  have hst3 : Blk w3 S _ 68 := hk3.keeps hst2 (Hp.w_ne Hp.stb (by decide))
  have hmw : ∀ k, wv.ownBlock = some k → m ≠ k := fun k hk => by obtain ⟨cc, hc⟩ := ownsRow_typed Hp.waits hk; exact Hp.m_ne hc
  have hm3 : IMap w3 m (mput L (p : Int) (.int .i64 M.ws.length)) := by
    refine (hm1.keep (hk2.block _ hm1.lt id)).keep (hk3.block _ (Nat.lt_of_lt_of_le hm1.lt hs2) (fun e => hmw _ e rfl))
  have hv3d : ∀ k, v3.ownBlock = some k → k ≠ d := fun k hk e => by
    obtain ⟨cc, hc⟩ := ownsRow_typed ho3 hk
    rw [e] at hc
    unfold Blk at hb3
    rw [hc] at hb3
    injection hb3 with hb3
    injection hb3 with _ hb3
    cases hb3
  have hdm : d ≠ m := fun e => Hp.m_ne Hp.blk e.symm
  have hkp : Kp F w (w3.setCell ⟨d, 1, none⟩ v3) := by
    refine Kp.setCell ?_ _ _ (.inr Hp.fd)
    refine Kp.andThen (S' := fun k => wv.ownBlock = some k) ?_ hk3 (fun k _ hk => Hp.fw k hk)
    exact hk12.mono (fun k _ e => e ▸ Hp.fm)
  refine ⟨⟨⟨hok.pos, hok.most, hok.st, ?_, ?_, hok.left0, hok.left1, hok.ops0, hok.ops1⟩, S, cS, m, v3, spare, mput L (p : Int) (.int .i64 M.ws.length), ?_, ?_, Hp.cap, ?_, ?_, ?_, .inl Hp.fd, .inl Hp.fS, .inl Hp.fm, ?_, ?_⟩, hkp, by rw [hb3.cell]; rfl, hb3.free 1⟩
  · intro x hx
    rcases List.mem_append.1 hx with hx | hx
    · exact hok.ws x hx
    · rw [List.mem_singleton] at hx; subst hx; exact ⟨hpl, hl⟩
  · show (M.ws ++ [(p, l)]).length ≤ _
    simp; omega
  · exact hb3.set 1 v3
  · exact hst3.other _ _ (fun e => Hp.d_ne_S e.symm)
  · exact hm3.keep (heap_setCell_other w3 _ _ _ (fun e => hdm e.symm))
  · exact fun k => showsAt_append p l M.ws L Hp.shows k
  · have e1 : (appM M p l).ws.length = M.ws.length + 1 := by simp [appM]
    have e2 : wcells (appM M p l).ws = wcells M.ws ++ wcell (p, l) := by simp [appM, wcells]
    rw [e1, e2]
    exact ownsRow_keep ho3 (fun k hk _ => heap_setCell_other w3 _ _ _ (hv3d k hk))
  · intro k hk
    rcases hf3 k hk with h | h
    · exact .inl (Hp.fw k h)
    · obtain ⟨cc, hc⟩ := ownsRow_typed ho3 hk
      exact .inr ⟨by omega, blk_lt hc⟩
  · intro k hk
    rw [World.size_setCell]
    rcases hk with hk | hk
    · have := Hp.lt k hk; omega
    · exact hk.2

set_option maxHeartbeats 1000000 in
theorem write_yes {w : World} {d : Nat} {M : DM} {F : Nat → Prop} (h : DiskAt w d M F) (p : Nat) (b o c : Nat) (l : List Int) (hl : l.length = 256) (hr : w.rangeAt b o (u8s l)) (hF : ¬ F b) (hyes : atE M p 256 = 0) (hops : M.ops < 1073741824) (hfew : M.ws.length < 1073741824) :
    Calls Try.prog 12 #[.pointer (some ⟨d, 0, none⟩), .int .i64 p, .slice (some ⟨b, o, none⟩) 256 c] w fun e w' => e = .returned (.int .i64 (writeE M)) ∧ (∃ F', DiskAt w' d (writeM M p l) F' ∧ ∀ k, F' k → F k ∨ w.heap.size ≤ k) ∧ Kp F w w' := by
  have hpl : p < M.st.length := by
    unfold atE at hyes
    split at hyes
    · cases hyes
    · omega
  have hat := Hd.mk (at_at h (p : Int) 256)
  rw [hyes] at hat
  clear hyes
  have H := Hd.mk h
  obtain ⟨hok, S, cS, m, wv, spare, L, hp⟩ := h
  obtain ⟨A, cw, hwv, -⟩ := ownsRow_len hp.waits
  have c1 := hp.c1
  rw [hwv] at c1
  have c2 := hp.c2
  have hm := Hd.mk hp.map
  have Hp := Hd.mk hp
  have Hok := Hd.mk hok
  have Hpl := Hd.mk hpl
  have Hl := Hd.mk hl
  have Hr := Hd.mk hr
  have Hops := Hd.mk hops
  have Hfew := Hd.mk hfew
  clear hp hok hpl hl hr hops hfew
  go_enter Try.func12, Try.ntmps12
  go_wp2_with (first | (go_at_call 31; refine hat.out.mono ?_; rintro e w' ⟨rfl, rfl⟩))
  go_still_tail 10, (by kernel_rfl)
  change wpList _ _ _ _ _ w.drew
  refine wl_update rfl 59 3 3 _ _ _ rfl Try.underlying59 Try.underlying3 m p (.int .i64 M.ws.length) rfl rfl rfl (show IMap w.drew m L from hm.out) ?_
  intro w1 hm1 hk1
  simp only [Act.put, List.setIfInBounds_toArray, List.set_cons_zero, List.set_cons_succ]
  -- the world behind the map's store
  have hk1' : Kp (· = m) w w1 := ⟨hk1.os, hk1.tape, hk1.output, hk1.size, hk1.block⟩
  have hb1 : Blk w1 d _ 61 := hk1'.keeps Hp.out.blk (fun e => Hp.out.m_ne Hp.out.blk e.symm)
  have hst1 : Blk w1 S _ 68 := hk1'.keeps Hp.out.stb (fun e => Hp.out.m_ne Hp.out.stb e.symm)
  have hw1 : w1.ownsRow 0 70 257 wv M.ws.length (wcells M.ws) := ownsRow_keep Hp.out.waits (fun k hk hl => hk1'.block k hl (fun e => by
    obtain ⟨cc, hc⟩ := ownsRow_typed Hp.out.waits hk; exact Hp.out.m_ne hc e.symm))
  have hr1 : w1.rangeAt b o (u8s l) := rangeAt_keep Hr.out (hk1'.block b (rangeAt_lt Hr.out (by intro e; have := congrArg List.length e; simp [Hl.out] at this)) (fun e => hF (e ▸ Hp.out.fm)))
  have c1' : w1.cell? ⟨d, 1, none⟩ = some wv := by rw [hb1.cell]; rfl
  subst hwv
  generalize hwv : Value.slice A M.ws.length cw = wv at *
  have HB1 := Hd.mk hb1
  have HST1 := Hd.mk hst1
  have HW1 := Hd.mk hw1
  have HR1 := Hd.mk hr1
  have HM1 := Hd.mk hm1
  have HK1 := Hd.mk hk1'
  have HWV := Hd.mk hwv
  clear hb1 hst1 hw1 hr1 hm1 hk1 hk1' hwv c1 c2 hm
  go_wp2_with fail
  refine rn_begin (fun W => W.cell? ⟨d, 1, none⟩ = some wv ∧ W.rangeAt b o (u8s l)) (List.range 12) (by kernel_rfl) ?_
  have hS : Hd ((fun W : World => W.cell? ⟨d, 1, none⟩ = some wv ∧ W.rangeAt b o (u8s l)) w1.drew) := ⟨c1', HR1.out⟩
  refine rn_take (i := 0) (dst := some 26) (v := .pointer (some ⟨d, 0, none⟩)) rfl (by kernel_rfl) (fun _ _ _ h => h) rfl rfl (fun W hW => ex_move W _ _ rfl rfl) hS.out ?_; simp only [Act.put, List.setIfInBounds_toArray, List.set_cons_zero, List.set_cons_succ]
  refine rn_take (i := 1) (dst := some 27) (v := .pointer (some ⟨d, 0, none⟩)) rfl (by kernel_rfl) (fun _ _ _ h => h) rfl rfl (fun W hW => ex_move W _ _ rfl rfl) hS.out ?_; simp only [Act.put, List.setIfInBounds_toArray, List.set_cons_zero, List.set_cons_succ]
  refine rn_take (i := 2) (dst := some 28) (v := .pointer (some ⟨d, 0, none⟩)) rfl (by kernel_rfl) (fun _ _ _ h => h) rfl rfl (fun W hW => ex_nilCheck W _ _ rfl rfl) hS.out ?_; simp only [Act.put, List.setIfInBounds_toArray, List.set_cons_zero, List.set_cons_succ]
  refine rn_take (i := 3) (dst := some 29) (v := .pointer (some ⟨d, 1, none⟩)) rfl (by kernel_rfl) (fun _ _ _ h => h) rfl rfl (fun W hW => ex_field W 61 1 _ rfl d 0 0 1 Try.underlying61 rfl info58s rfl rfl) hS.out ?_; simp only [Act.put, List.setIfInBounds_toArray, List.set_cons_zero, List.set_cons_succ]
  refine rn_take (i := 4) (dst := some 30) (v := wv) rfl (by kernel_rfl) (fun _ _ _ h => h) rfl rfl (fun W hW => ex_load W 58 _ _ rfl ⟨d, 1, none⟩ Try.underlying58 rfl rfl hW.1) hS.out ?_; simp only [Act.put, List.setIfInBounds_toArray, List.set_cons_zero, List.set_cons_succ]
  refine rn_take (i := 5) (dst := some 31) (v := .int .i64 p) rfl (by kernel_rfl) (fun _ _ _ h => h) rfl rfl (fun W hW => ex_move W _ _ rfl rfl) hS.out ?_; simp only [Act.put, List.setIfInBounds_toArray, List.set_cons_zero, List.set_cons_succ]
  refine rn_take (i := 6) (dst := some 32) (v := .slice (some ⟨b, o, none⟩) 256 c) rfl (by kernel_rfl) (fun _ _ _ h => h) rfl rfl (fun W hW => ex_move W _ _ rfl rfl) hS.out ?_; simp only [Act.put, List.setIfInBounds_toArray, List.set_cons_zero, List.set_cons_succ]
  refine rn_take (i := 7) (dst := some 33) (v := .pointer (some ⟨b, o, none⟩)) rfl (by kernel_rfl) (fun _ _ _ h => h) rfl rfl (fun W hW => ex_toArray W 68 _ rfl 256 Try.underlying68 _ 256 c rfl (Nat.le_refl _)) hS.out ?_; simp only [Act.put, List.setIfInBounds_toArray, List.set_cons_zero, List.set_cons_succ]
  refine rn_take (i := 8) (dst := some 34) (v := .agg (u8s l).toArray) rfl (by kernel_rfl) (fun _ _ _ h => h) rfl rfl (fun W hW => ex_load_mid W 68 _ rfl b o rfl _ hW.2 Try.underlying68 rfl (by rw [u8s_length, Hl.out]; exact info68)) hS.out ?_; simp only [Act.put, List.setIfInBounds_toArray, List.set_cons_zero, List.set_cons_succ]
  refine rn_take (i := 9) (dst := some 35) (v := .agg (wcell (p, l)).toArray) rfl (by kernel_rfl) (fun _ _ _ h => h) rfl rfl (fun W hW => ex_build W 70 _ rfl Try.underlying70 Z257 (zero70 W) #[(0, 1), (1, 256)] (by kernel_rfl) [(0, .int .i64 p), (1, .agg (u8s l).toArray)] rfl (wcell (p, l)) (fill70 p l Hl.out)) hS.out ?_; simp only [Act.put, List.setIfInBounds_toArray, List.set_cons_zero, List.set_cons_succ]
  have hwl : (wcell (p, l)).length = 257 := wcell_length Hl.out
  have hone : ∀ v ∈ wcell (p, l), v.oneCell' = true := by
    intro v hv
    rcases List.mem_cons.1 hv with rfl | hv
    · rfl
    · exact u8s_one l v hv
  refine rn_one (i := 10) (dst := some 36) rfl (by kernel_rfl) rfl rfl (fun K hK => ?_)
  refine ow_run (ex_buildSlice1 _ 58 70 _ rfl Try.underlying58 (wcell (p, l)) rfl Z257 (zero70 _) (by rw [hwl]; exact info70) (by rw [Z257_length, hwl]) (by omega) (by omega)) (hK _ _ (fun _ => ⟨?_, World.rangeAt_alloc hS.out.2 _⟩) ?_)
  · have := HB1.out.alloc (.cells (wcell (p, l)).toArray 70)
    show (w1.alloc _).cell? _ = _
    rw [this.cell]; rfl
  clear hK K
  simp only [Act.put, List.setIfInBounds_toArray, List.set_cons_zero, List.set_cons_succ]
  have hw2 : (w1.drew.alloc (.cells (wcell (p, l)).toArray 70)).ownsRow 0 70 257 wv M.ws.length (wcells M.ws) := ownsRow_keep HW1.out (fun k _ hl => _root_.Go.heap_alloc_old w1.drew _ hl)
  have hn2 : (w1.drew.alloc (.cells (wcell (p, l)).toArray 70)).rangeAt w1.heap.size 0 (wcell (p, l)) := by
    have := (Blk.new w1.drew (wcell (p, l)) 70).range 0 257
    rw [List.drop_zero, List.take_of_length_le (by omega)] at this
    exact this
  refine rn_one (i := 11) (dst := some 37) rfl (by kernel_rfl) rfl rfl (fun K hK => ?_)
  refine ow_append _ _ 58 rfl 70 257 264 Try.underlying58 info70z (by simp [Value.cells, Z257_length]) (by omega) wv M.ws.length _ rfl hw2 _ 0 1 1 (wcell (p, l)) rfl (by omega) hn2 hone ?_ ?_ (by omega) (fun v3 w3 ho3 hk3 hf3 => hK _ _ (fun _ => ?_) ?_)
  · simp only [maxLen]; have := Hfew.out; omega
  · have := Hfew.out; omega
  · have hb2 : Blk (w1.drew.alloc (.cells (wcell (p, l)).toArray 70)) d _ 61 := Blk.alloc (w := w1.drew) HB1.out _
    refine ⟨?_, ?_⟩
    · rw [World.cell?_of_block (w := (w1.drew.alloc (.cells (wcell (p, l)).toArray 70))) (hk3.block d (blk_lt hb2) (Hp.out.w_ne Hp.out.blk (by decide))), hb2.cell]; rfl
    · refine rangeAt_keep (World.rangeAt_alloc hS.out.2 _) (hk3.block b ?_ (fun e => hF (Hp.out.fw b e)))
      exact Nat.lt_of_lt_of_le (rangeAt_lt HR1.out (by intro e; have := congrArg List.length e; simp [Hl.out] at this)) (by simp)
  clear hK K
  obtain ⟨hD, hKp, hc3, hfr3⟩ := write_join Hok.out Hpl.out Hl.out Hfew.out Hp.out HK1.out HM1.out (((Kp.refl (fun _ => False) w1).drew).alloc (.cells (wcell (p, l)).toArray 70)) ho3 hk3 hf3
  obtain ⟨A3, c3, hv3, -⟩ := ownsRow_len ho3
  have HD := Hd.mk hD
  have HKp := Hd.mk hKp
  clear hD hKp hw2 hn2 hone hk3 ho3
  simp only [Act.put, List.setIfInBounds_toArray, List.set_cons_zero, List.set_cons_succ]
  refine rn_one (i := 12) (dst := some 38) rfl (by kernel_rfl) rfl rfl (fun K hK => ?_)
  refine ow_run (ex_nilCheck _ _ ⟨d, 0, none⟩ rfl rfl) (hK _ _ (fun h => by simp at h) ?_)
  clear hK K
  simp only [Act.put, List.setIfInBounds_toArray, List.set_cons_zero, List.set_cons_succ]
  refine rn_one (i := 13) (dst := some 39) rfl (by kernel_rfl) rfl rfl (fun K hK => ?_)
  refine ow_run (ex_field _ 61 1 _ rfl d 0 0 1 Try.underlying61 rfl info58s rfl rfl) (hK _ _ (fun h => by simp at h) ?_)
  clear hK K
  simp only [Act.put, List.setIfInBounds_toArray, List.set_cons_zero, List.set_cons_succ]
  refine rn_one (i := 14) (dst := none) rfl (by kernel_rfl) rfl rfl (fun K hK => ?_)
  refine ow_store 58 _ _ v3 wv rfl ⟨d, 1, none⟩ (by kernel_rfl) rfl rfl (by rw [hv3]; rfl) (by rw [hv3]; rfl) hc3 hfr3 (hK _ _ (fun h => by simp at h) ?_)
  clear hK K
  refine rn_done (by kernel_rfl) ?_ _
  simp only [Act.put, List.setIfInBounds_toArray, List.set_cons_zero, List.set_cons_succ]
  have hsp := Hd.mk (spends_at HD.out Hops.out)
  have hres : spendsB (appM M p l) = spendsB M := rfl
  rw [hres] at hsp
  have hE : Hd (writeE M = if spendsB M then 0 else 5) := ⟨rfl⟩
  clear hc3 hfr3 hres hv3 c1'
  generalize spendsB M = sb at hsp hE
  generalize w3.setCell ⟨d, 1, none⟩ v3 = w4 at *
  cases sb
  all_goals
    go_wp2_with (first | (go_at_call 32; refine hsp.out.mono ?_; rintro e w' ⟨rfl, hD5, hk5⟩; have HD5 := Hd.mk hD5; have HK5 := Hd.mk hk5; clear hD5 hk5))
    go_ret
    refine ⟨ret_int (by rw [hE.out]; rfl), ⟨_, HD5.out, fun k hk => hk.imp id (fun h => h.1)⟩, HKp.out.andThen HK5.out (fun k _ e => e ▸ Hp.out.fd)⟩
end Go.Proofs.Ytkcechpaeilaeaa
