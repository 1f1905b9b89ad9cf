/- The reference's device: Write. -/
import Derived.Test.YtkcechpaeilaeaaR2
import Derived.Test.YtkcechpaeilaeaaD4
namespace Go.Proofs.Ytkcechpaeilaeaa
open Go.RowKit
set_option linter.unusedVariables false
set_option linter.unusedSimpArgs false
theorem zero85 (w : World) : (zeroValue 85).run Try.prog w = .ok (.agg [Value.int .i64 0, .slice none 0 0].toArray) w := by kernel_rfl
theorem info85z : (Try.prog.info? 85).map (fun i => (i.zero, i.size, i.bytes)) = some (some (.agg #[.int .i64 0, .slice none 0 0]), 2, 32) := by kernel_rfl
theorem info85 : (Try.prog.info? 85).map (·.size) = some 2 := by kernel_rfl
theorem info76n : (Try.prog.info? 76).map (·.size) = some 1 := by kernel_rfl
theorem fill85 (p : Int) (v : Value) (hv : v.cells = #[v]) : Instr.fill (#[(0, 1), (1, 1)][·]?) [Value.int .i64 0, .slice none 0 0].toArray [(0, .int .i64 p), (1, v)] = some [Value.int .i64 p, v].toArray := by
  rw [fill_step _ [Value.int .i64 0, .slice none 0 0] [.int .i64 p] 0 0 (.int .i64 p) rfl _ rfl (by simp)]
  rw [fill_step _ _ [v] 1 1 v hv _ rfl (by simp [splice])]
  simp [splice, Instr.fill]
section
variable {w : World} {r : Nat} {M : DM} {G : Nat → Prop}
set_option maxHeartbeats 400000 in
theorem rwrite_no (h : RefAt w r M G) (p : Int) (A : Option Addr) (n c : Nat) (hno : (atE M p n != 0) = true) :
    Calls Try.prog 42 #[.pointer (some ⟨r, 0, none⟩), .int .i64 p, .slice A n c] w fun e w' => e = .returned (.int .i64 (atE M p n)) ∧ w = w' := by
  have his := Hd.mk (is_at h p)
  obtain ⟨hok, sv, wv, ss, ws, hP⟩ := h
  have c3 := hP.c3
  have hE : Hd (atE M p n = if p < 0 ∨ (M.st.length : Int) ≤ p ∨ (n : Int) ≠ 256 then 1 else pwrE M) := Hd.mk rfl
  have hW : Hd (pwrE M = if M.off then 5 else 0) := Hd.mk rfl
  have Hno := Hd.mk hno
  clear hP hok hno
  by_cases e : 0 ≤ p ∧ p < M.st.length
  · rw [decide_eq_true e] at his
    by_cases e2 : n = 256
    · subst e2
      have hE2 : atE M p ((256 : Nat) : Int) = pwrE M := by rw [hE.out, if_neg (by omega)]
      have hoff : M.off = true := by
        cases ho : M.off
        · have := Hno.out
          rw [hE2, hW.out, ho] at this
          simp at this
        · rfl
      have hE3 : Hd (atE M p ((256 : Nat) : Int) = 5) := ⟨by rw [hE2, hW.out, hoff]; rfl⟩
      rw [hoff] at c3
      clear e hE2 hoff
      go_enter Try.func42, Try.ntmps42
      go_wp2_with (first | (go_at_call 52; refine his.out.mono ?_; rintro e w' ⟨rfl, rfl⟩))
      go_ret
      exact ⟨by rw [hE3.out]; rfl, rfl⟩
    · have hE2 : Hd (atE M p n = 1) := ⟨by rw [hE.out, if_pos (by omega)]⟩
      have e2' : ((n : Int) != 256) = true := by rw [bne_iff_ne]; omega
      clear e e2
      go_enter Try.func42, Try.ntmps42
      go_wp2_with (first | (go_at_call 52; refine his.out.mono ?_; rintro e w' ⟨rfl, rfl⟩))
      go_ret
      exact ⟨by rw [hE2.out]; rfl, rfl⟩
  · rw [decide_eq_false e] at his
    have hE2 : Hd (atE M p n = 1) := ⟨by rw [hE.out, if_pos (by omega)]⟩
    clear e
    go_enter Try.func42, Try.ntmps42
    go_wp2_with (first | (go_at_call 52; refine his.out.mono ?_; rintro e w' ⟨rfl, rfl⟩))
    go_ret
    exact ⟨by rw [hE2.out]; rfl, rfl⟩
/-- The device behind a write's steps: Join, the append, the store of the row. -/
theorem rwrite_join {w1 w2 w3 : World} {sv wv v v3 : Value} {ss : List Value} {ws : List (Nat × Value)} {p : Nat} {l : List Int} (hok : M.Ok) (hpl : p < M.st.length) (hl : l.length = 256) (hfew : M.ws.length < 1073741824)
    (Hp : RefP w r M G sv wv ss ws) (hk1 : Kp (fun _ => False) w w1) (hv : w1.ownsRow 0 5 1 v 256 (u8s l)) (hvf : ∀ k, v.ownBlock = some k → w.heap.size ≤ k) (hk2 : Kp (fun _ => False) w1 w2)
    (ho3 : w3.ownsRow 0 85 2 v3 (M.ws.length + 1) (ws.flatMap rcell ++ rcell (p, v))) (hk3 : Kp (fun k => wv.ownBlock = some k) w2 w3) (hf3 : ∀ k, v3.ownBlock = some k → wv.ownBlock = some k ∨ w2.heap.size ≤ k) :
    RefAt (w3.setCell ⟨r, 1, none⟩ v3) r (appM M p l) (fun k => G k ∨ (w.heap.size ≤ k ∧ k < w3.heap.size)) ∧ Kp G w (w3.setCell ⟨r, 1, none⟩ v3) ∧ w3.cell? ⟨r, 1, none⟩ = some wv ∧ w3.frozen? ⟨r, 1, none⟩ = false := by
  have hk12 := hk1.trans hk2
  have hs12 := hk12.size
  have hs1 := hk1.size
  have hs2 := hk2.size
  have hs3 := hk3.size
  have hkw : Kp (fun k => wv.ownBlock = some k) w w3 := (hk12.mono (fun _ _ h => h.elim)).trans hk3
  have hb3 : Blk w3 r _ 78 := hkw.keeps Hp.blk Hp.w_ne
  have hset : ∀ k, k ≠ r → (w3.setCell ⟨r, 1, none⟩ v3).heap[k]? = w3.heap[k]? := fun k hk => heap_setCell_other w3 ⟨r, 1, none⟩ k v3 (fun e => hk e)
  have hkp : Kp G w (w3.setCell ⟨r, 1, none⟩ v3) := (hkw.mono (fun k _ h => Hp.gw k h)).setCell _ _ (.inr Hp.gr)
  have hpg : ∀ {u : Value} {m : List Int}, Pg w G u m → Pg (w3.setCell ⟨r, 1, none⟩ v3) (fun k => G k ∨ (w.heap.size ≤ k ∧ k < w3.heap.size)) u m := fun {u m} h => h.keep (fun _ => .inl) (fun k hk => by
    rw [hset k (fun e => Hp.p_ne h (by rw [hk, e]))]
    refine hkw.block k (Hp.lt k (h.2 k hk)) (fun e => ?_)
    obtain ⟨cells, hc⟩ := ownsRow_typed Hp.wrow e
    have := h.type hk hc
    cases this)
  have hnew : Pg (w3.setCell ⟨r, 1, none⟩ v3) (fun k => G k ∨ (w.heap.size ≤ k ∧ k < w3.heap.size)) v l := by
    have h1 : Pg w1 (fun k => w.heap.size ≤ k) v l := ⟨hv, hvf⟩
    refine ⟨ownsRow_keep hv (fun k hk hlk => ?_), fun k hk => .inr ⟨hvf k hk, ?_⟩⟩
    · rw [hset k (fun e => by have := hvf k hk; have := Hp.lt _ Hp.gr; omega), hk3.block k (by omega) (fun e => ?_), hk2.block k hlk id]
      have := hvf k hk
      have := Hp.lt k (Hp.gw k e)
      omega
    · have := (hv.lt k hk).2; omega
  refine ⟨⟨⟨hok.pos, hok.most, hok.st, ?_, ?_, hok.left0, hok.left1, hok.ops0, hok.ops1⟩, sv, v3, ss, ws ++ [(p, v)], ?_, ?_, ?_, Hp.slen, ?_, ?_, ?_, .inl Hp.gr, fun k hk => .inl (Hp.gs k hk), ?_, ?_⟩, hkp, by rw [hb3.cell]; rfl, hb3.free 1⟩
  · intro x hx
    rcases List.mem_append.1 hx with hx | hx
    · exact hok.ws x hx
    · rw [List.mem_singleton] at hx; subst hx; exact ⟨hpl, hl⟩
  · show (M.ws ++ [(p, l)]).length ≤ _
    simp; omega
  · exact hb3.set 1 v3
  · exact ownsRow_keep Hp.srow (fun k hk hlk => by
      rw [hset k (fun e => Hp.s_ne (by rw [hk, e]))]
      refine hkw.block k hlk (fun e => ?_)
      obtain ⟨cells, hc⟩ := ownsRow_typed Hp.wrow e
      have := ownsRow_type Hp.srow hk hc
      cases this)
  · have e1 : (appM M p l).ws.length = M.ws.length + 1 := by simp [appM]
    rw [e1, List.flatMap_append]
    simp only [List.flatMap_cons, List.flatMap_nil, List.append_nil]
    refine ownsRow_keep ho3 (fun k hk _ => hset k (fun e => ?_))
    subst e
    have := ownsRow_type ho3 hk hb3
    cases this
  · simp [appM, Hp.wlen]
  · exact fun i u hu => hpg (Hp.spg i u hu)
  · intro i x hx
    rcases Nat.lt_or_ge i ws.length with hi | hi
    · rw [List.getElem?_append_left hi] at hx
      have h1 := Hp.wpg i x hx
      have e : (appM M p l).ws.getD i (0, []) = M.ws.getD i (0, []) := by
        show (M.ws ++ [(p, l)]).getD i (0, []) = _
        rw [List.getD_eq_getElem?_getD, List.getElem?_append_left (by rw [← Hp.wlen]; exact hi), List.getD_eq_getElem?_getD]
      rw [e]
      exact ⟨h1.1, hpg h1.2⟩
    · have hie : i = ws.length := by
        have := (List.getElem?_eq_some_iff.1 hx).1
        simp at this; omega
      subst hie
      rw [List.getElem?_append_right (Nat.le_refl _), Nat.sub_self] at hx
      injection hx with hx
      subst hx
      have e : (appM M p l).ws.getD ws.length (0, []) = (p, l) := by
        show (M.ws ++ [(p, l)]).getD ws.length (0, []) = _
        rw [List.getD_eq_getElem?_getD, List.getElem?_append_right (by rw [Hp.wlen]; exact Nat.le_refl _), Hp.wlen, Nat.sub_self]
        rfl
      rw [e]
      exact ⟨rfl, hnew⟩
  · intro k hk
    rcases hf3 k hk with h | h
    · exact .inl (Hp.gw k h)
    · exact .inr ⟨by omega, (ho3.lt k hk).2⟩
  · intro k hk
    rw [World.size_setCell]
    rcases hk with hk | hk
    · have := Hp.lt k hk; omega
    · exact hk.2
set_option maxHeartbeats 1000000 in
theorem rwrite_yes (h : RefAt w r M G) (p : Nat) {v : Value} {l : List Int} (hv : Bs w v l) (hl : l.length = 256) (hyes : atE M p 256 = 0) (hops : M.ops < 1073741824) (hfew : M.ws.length < 1073741824) :
    Calls Try.prog 42 #[.pointer (some ⟨r, 0, none⟩), .int .i64 p, v] w fun e w' => e = .returned (.int .i64 (writeE M)) ∧ (∃ G', RefAt w' r (writeM M p l) G' ∧ ∀ k, G' k → G k ∨ w.heap.size ≤ k) ∧ Kp G w w' := by
  have hpl : p < M.st.length := by
    unfold atE at hyes
    split at hyes
    · cases hyes
    · omega
  have hoff : M.off = false := by
    unfold atE at hyes
    split at hyes
    · cases hyes
    · cases ho : M.off
      · rfl
      · rw [pwrE, ho] at hyes; cases hyes
  have his := is_at h p
  rw [decide_eq_true (by omega)] at his
  have his := Hd.mk his
  obtain ⟨hok, sv, wv, ss, ws, hP⟩ := h
  have c3 := hP.c3
  rw [hoff] at c3
  obtain ⟨A, cw, hwv, -⟩ := ownsRow_len hP.wrow
  have c1 := Hd.mk hP.c1
  have Hp := Hd.mk hP
  have Hok := Hd.mk hok
  have Hfew := Hd.mk hfew
  have Hops := Hd.mk hops
  have Hpl := Hd.mk hpl
  have Hl := Hd.mk hl
  have Hv := Hd.mk hv
  obtain ⟨Av, cv, rfl, hcv, -⟩ := hv
  rw [hl] at hcv
  have HvB : Hd (∀ w', Kp (fun _ => False) w w' → Bs w' (.slice Av l.length cv) l) := ⟨fun w' k => Hv.out.keep (fun b hb _ => k.block b hb id)⟩
  rw [hl] at Hv HvB ⊢
  clear hP hok hyes hpl hoff hl hfew hops
  go_enter Try.func42, Try.ntmps42
  go_wp2_with (first | (go_at_call 52; refine his.out.mono ?_; rintro e w' ⟨rfl, rfl⟩))
  subst hwv
  have hS : Hd ((fun W : World => W.cell? ⟨r, 1, none⟩ = some (.slice A M.ws.length cw)) w.drew) := ⟨c1.out⟩
  refine rn_begin (fun W : World => W.cell? ⟨r, 1, none⟩ = some (.slice A M.ws.length cw)) (List.range 11) (by kernel_rfl) ?_
  refine rn_take (i := 0) (dst := some 20) (v := .pointer (some ⟨r, 0, none⟩)) rfl (by kernel_rfl) (fun _ _ _ h => h) rfl rfl (fun W hW => ex_move W _ _ rfl rfl) hS.out ?_
  simp only [Act.put, List.setIfInBounds_toArray, List.set_cons_zero, List.set_cons_succ]
  refine rn_take (i := 1) (dst := some 21) (v := .pointer (some ⟨r, 0, none⟩)) rfl (by kernel_rfl) (fun _ _ _ h => h) rfl rfl (fun W hW => ex_move W _ _ rfl rfl) hS.out ?_
  simp only [Act.put, List.setIfInBounds_toArray, List.set_cons_zero, List.set_cons_succ]
  refine rn_take (i := 2) (dst := some 22) (v := .pointer (some ⟨r, 0, none⟩)) rfl (by kernel_rfl) (fun _ _ _ h => h) rfl rfl (fun W hW => ex_nilCheck W _ _ rfl rfl) hS.out ?_
  simp only [Act.put, List.setIfInBounds_toArray, List.set_cons_zero, List.set_cons_succ]
  refine rn_take (i := 3) (dst := some 23) (v := .pointer (some ⟨r, 1, none⟩)) rfl (by kernel_rfl) (fun _ _ _ h => h) rfl rfl (fun W hW => er_field W 78 1 _ rfl r 0 0 1 1 (by first | rfl | omega) Try.underlying78 rfl (by kernel_rfl) rfl rfl) hS.out ?_
  simp only [Act.put, List.setIfInBounds_toArray, List.set_cons_zero, List.set_cons_succ]
  refine rn_take (i := 4) (dst := some 24) (v := .slice A M.ws.length cw) rfl (by kernel_rfl) (fun _ _ _ h => h) rfl rfl (fun W hW => ex_load W 76 _ _ rfl ⟨r, 1, none⟩ Try.underlying76 rfl rfl (hW)) hS.out ?_
  simp only [Act.put, List.setIfInBounds_toArray, List.set_cons_zero, List.set_cons_succ]
  refine rn_take (i := 5) (dst := some 25) (v := .int .i64 ((p : Nat) : Int)) rfl (by kernel_rfl) (fun _ _ _ h => h) rfl rfl (fun W hW => ex_move W _ _ rfl rfl) hS.out ?_
  simp only [Act.put, List.setIfInBounds_toArray, List.set_cons_zero, List.set_cons_succ]
  refine rn_take (i := 6) (dst := some 26) (v := .slice Av 256 cv) rfl (by kernel_rfl) (fun _ _ _ h => h) rfl rfl (fun W hW => ex_move W _ _ rfl rfl) hS.out ?_
  simp only [Act.put, List.setIfInBounds_toArray, List.set_cons_zero, List.set_cons_succ]
  refine rn_one (i := 7) (dst := some 27) rfl (by kernel_rfl) rfl rfl (fun K hK => ?_)
  refine ow_call 47 _ _ rfl Try.func47 (by kernel_rfl) (by kernel_rfl) [.slice none 0 0, .slice Av 256 cv] rfl (join_at (Bs_nil w.drew) (HvB.out w.drew ((Kp.refl _ w).drew)) (by rw [Hl.out]; simp)) ?_
  rintro e w1 ⟨v1, rfl, h11, h12, h13⟩
  rw [List.nil_append, Hl.out] at h11
  have k1 : Kp (fun _ => False) w w1 := Kp.trans ((Kp.refl _ w).drew) h13
  have H11 := Hd.mk h11
  have H12 := Hd.mk h12
  have K1 := Hd.mk k1
  have hv1 := (Pg.one (G := fun _ => True) ⟨h11, fun _ _ => trivial⟩)
  have Hp1 := Hd.mk (Hp.out.keep k1 (fun _ _ => id))
  obtain ⟨A1, n1, e1, -⟩ := ownsRow_len h11
  subst e1
  refine ⟨_, rfl, hK _ _ (fun _ => Hp1.out.c1) ?_⟩
  clear hK K hS
  have hS : Hd ((fun W : World => W.cell? ⟨r, 1, none⟩ = some (.slice A M.ws.length cw)) w1) := ⟨Hp1.out.c1⟩
  clear h11 h12 h13 k1
  simp only [Act.put, List.setIfInBounds_toArray, List.set_cons_zero, List.set_cons_succ]
  refine rn_take (i := 8) (dst := some 28) (v := .agg #[.int .i64 (p : Int), .slice A1 256 n1]) rfl (by kernel_rfl) (fun _ _ _ h => h) rfl rfl (fun W hW => ex_build W 85 _ rfl Try.underlying85 [Value.int .i64 0, .slice none 0 0] (zero85 W) #[(0, 1), (1, 1)] (by kernel_rfl) [(0, .int .i64 (p : Int)), (1, .slice A1 256 n1)] rfl (rcell (p, .slice A1 256 n1)) (fill85 p (.slice A1 256 n1) rfl)) hS.out ?_
  simp only [Act.put, List.setIfInBounds_toArray, List.set_cons_zero, List.set_cons_succ]
  refine rn_one (i := 9) (dst := some 29) rfl (by kernel_rfl) rfl rfl (fun K hK => ?_)
  have Hp2 := Hd.mk (Hp1.out.keep ((Kp.refl (fun _ => False) w1).alloc (.cells (rcell (p, .slice A1 256 n1)).toArray 85)) (fun _ _ => id))
  refine ow_run (ex_buildSlice1 _ 76 85 _ rfl Try.underlying76 (rcell (p, .slice A1 256 n1)) rfl [Value.int .i64 0, .slice none 0 0] (zero85 _) info85 rfl (by simp [rcell]) (by simp [rcell])) (hK _ _ (fun _ => Hp2.out.c1) ?_)
  clear hK K
  simp only [Act.put, List.setIfInBounds_toArray, List.set_cons_zero, List.set_cons_succ]
  have hn2 : (w1.alloc (.cells (rcell (p, .slice A1 256 n1)).toArray 85)).rangeAt w1.heap.size 0 (rcell (p, .slice A1 256 n1)) := fun j u hu => by rw [Nat.zero_add, Blk.cell (Blk.new w1 (rcell (p, .slice A1 256 n1)) 85)]; exact hu
  refine rn_one (i := 10) (dst := some 30) rfl (by kernel_rfl) rfl rfl (fun K hK => ?_)
  refine ow_append _ _ 76 rfl 85 2 32 Try.underlying76 info85z rfl (by omega) (.slice A M.ws.length cw) M.ws.length _ rfl Hp2.out.wrow _ 0 1 1 (rcell (p, .slice A1 256 n1)) rfl rfl hn2 (by intro u hu; simp [rcell] at hu; rcases hu with rfl | rfl <;> rfl) (by simp only [maxLen]; have := Hfew.out; omega) (by have := Hfew.out; omega) (by omega) (fun v3 w3 ho3 hk3 hf3 => ?_)
  obtain ⟨hR, hKp, hc3, hfr3⟩ := rwrite_join Hok.out Hpl.out Hl.out Hfew.out Hp.out K1.out H11.out H12.out ((Kp.refl (fun _ => False) w1).alloc (.cells (rcell (p, .slice A1 256 n1)).toArray 85)) ho3 hk3 hf3
  obtain ⟨A3, n3, rfl, -⟩ := ownsRow_len ho3
  have HR := Hd.mk hR
  have HKp := Hd.mk hKp
  have Hc3 := Hd.mk hc3
  have Hf3 := Hd.mk hfr3
  refine hK _ _ (fun _ => hc3) ?_
  clear hK K hS hR hKp hk3 ho3 hf3 hn2 hc3 hfr3
  have hS : Hd ((fun W : World => W.cell? ⟨r, 1, none⟩ = some (.slice A M.ws.length cw)) w3) := ⟨Hc3.out⟩
  simp only [Act.put, List.setIfInBounds_toArray, List.set_cons_zero, List.set_cons_succ]
  refine rn_takeT [12, 13] (i := 11) (dst := some 31) (v := .pointer (some ⟨r, 0, none⟩)) rfl (by kernel_rfl) (fun _ _ _ h => h) rfl rfl (fun W hW => ex_nilCheck W _ _ rfl rfl) hS.out ?_
  simp only [Act.put, List.setIfInBounds_toArray, List.set_cons_zero, List.set_cons_succ]
  refine rn_take (i := 12) (dst := some 32) (v := .pointer (some ⟨r, 1, none⟩)) rfl (by kernel_rfl) (fun _ _ _ h => h) rfl rfl (fun W hW => er_field W 78 1 _ rfl r 0 0 1 1 (by first | rfl | omega) Try.underlying78 rfl (by kernel_rfl) rfl rfl) hS.out ?_
  simp only [Act.put, List.setIfInBounds_toArray, List.set_cons_zero, List.set_cons_succ]
  refine rn_one (i := 13) (dst := none) rfl (by kernel_rfl) rfl rfl (fun K hK => ?_)
  refine ow_store 76 _ _ (.slice A3 (M.ws.length + 1) n3) (.slice A M.ws.length cw) rfl ⟨r, 1, none⟩ info76n rfl rfl rfl rfl Hc3.out Hf3.out (hK _ _ (fun h => by simp at h) ?_)
  clear hK K
  refine rn_done (by kernel_rfl) ?_ _
  simp only [Act.put, List.setIfInBounds_toArray, List.set_cons_zero, List.set_cons_succ]
  have hsp := Hd.mk (goes_at HR.out Hops.out)
  have hres : spendsB (appM M p l) = spendsB M := rfl
  rw [hres] at hsp
  have hE : Hd (writeE M = if spendsB M then 0 else 5) := ⟨rfl⟩
  clear hres hS
  generalize spendsB M = sb at hsp hE
  generalize w3.setCell ⟨r, 1, none⟩ (.slice A3 (M.ws.length + 1) n3) = w4 at *
  cases sb
  all_goals
    go_wp2_with (first | (go_at_call 53; refine hsp.out.mono ?_; rintro e w' ⟨rfl, hD5, hk5⟩; have HD5 := Hd.mk hD5; have HK5 := Hd.mk hk5; clear hD5 hk5))
    go_ret
    refine ⟨ret_int (by rw [hE.out]; rfl), ⟨_, HD5.out, fun k hk => hk.imp id (fun h => h.1)⟩, HKp.out.andThen HK5.out (fun k _ e => e ▸ Hp.out.gr)⟩
end
end Go.Proofs.Ytkcechpaeilaeaa
