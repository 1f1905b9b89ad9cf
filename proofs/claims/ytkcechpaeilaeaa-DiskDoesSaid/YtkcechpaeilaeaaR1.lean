/- The reference's device in memory; Join, Is, goes. -/
import Derived.Test.YtkcechpaeilaeaaAp2
import Derived.Test.YtkcechpaeilaeaaD10
namespace Go.Proofs.Ytkcechpaeilaeaa
open Go.RowKit
set_option linter.unusedVariables false
set_option linter.unusedSimpArgs false

def leftR (M : DM) : Int := if M.armed then M.left else -1
def rcell (x : Nat × Value) : List Value := [.int .i64 (x.1 : Int), x.2]
/-- A page of 256 bytes in a block of bytes. -/
def Pg (w : World) (G : Nat → Prop) (v : Value) (l : List Int) : Prop := w.ownsRow 0 5 1 v 256 (u8s l) ∧ ∀ k, v.ownBlock = some k → G k
theorem Pg.keep {w w' : World} {G G' : Nat → Prop} {v : Value} {l : List Int} (h : Pg w G v l) (hG : ∀ k, G k → G' k) (hb : ∀ k, v.ownBlock = some k → w'.heap[k]? = w.heap[k]?) : Pg w' G' v l :=
  ⟨ownsRow_keep h.1 (fun k hk _ => hb k hk), fun k hk => hG k (h.2 k hk)⟩
theorem Pg.len {w : World} {G : Nat → Prop} {v : Value} {l : List Int} (h : Pg w G v l) : l.length = 256 := by have := h.1.1; rw [u8s_length] at this; omega
theorem Pg.bs {w : World} {G : Nat → Prop} {v : Value} {l : List Int} (h : Pg w G v l) : Bs w v l := ownsRow_Bs' h.len.symm h.1
theorem Pg.slice {w : World} {G : Nat → Prop} {v : Value} {l : List Int} (h : Pg w G v l) : ∃ g c, v = .slice (some ⟨g, 0, none⟩) 256 c ∧ 256 ≤ c ∧ w.rangeAt g 0 (u8s l) := by
  have h1 := h.1
  rcases h1.2 with ⟨_, h0⟩ | ⟨g, cap, cur, rfl, _, hh, hc, _⟩
  · omega
  · refine ⟨g, cap, rfl, hc, fun j u hu => ?_⟩
    have := h1.cells (g := g) rfl j u hu
    rw [Addr.add_mid] at this
    exact this
theorem Pg.one {w : World} {G : Nat → Prop} {v : Value} {l : List Int} (h : Pg w G v l) : v.oneCell' = true := by
  obtain ⟨g, c, rfl, _⟩ := h.slice
  rfl
theorem Pg.type {w : World} {G : Nat → Prop} {v : Value} {l : List Int} (h : Pg w G v l) {k : Nat} {cs : Array Value} {t : TypeId} {f : Nat × Nat} (hk : v.ownBlock = some k) (hb : w.heap[k]? = some (.cells cs t f)) : t = 5 := by
  obtain ⟨cells, hc⟩ := ownsRow_typed h.1 hk
  rw [hc] at hb
  injection hb with hb
  injection hb with _ hb _
  exact hb.symm
theorem ownsRow_type {w : World} {e : TypeId} {size n : Nat} {v : Value} {xs : List Value} (h : w.ownsRow 0 e size v n xs) {k : Nat} {cs : Array Value} {t : TypeId} {f : Nat × Nat} (hk : v.ownBlock = some k) (hb : w.heap[k]? = some (.cells cs t f)) : t = e := by
  obtain ⟨cells, hc⟩ := ownsRow_typed h hk
  rw [hc] at hb
  injection hb with hb
  injection hb with _ hb _
  exact hb.symm

structure RefP (w : World) (r : Nat) (M : DM) (G : Nat → Prop) (sv wv : Value) (ss : List Value) (ws : List (Nat × Value)) : Prop where
  blk : Blk w r [sv, wv, .int .i64 (leftR M), .bool M.off, .int .i64 M.ops] 78
  srow : w.ownsRow 0 23 1 sv M.st.length ss
  wrow : w.ownsRow 0 85 2 wv M.ws.length (ws.flatMap rcell)
  slen : ss.length = M.st.length
  wlen : ws.length = M.ws.length
  spg : ∀ i v, ss[i]? = some v → Pg w G v (M.st.getD i [])
  wpg : ∀ i x, ws[i]? = some x → x.1 = (M.ws.getD i (0, [])).1 ∧ Pg w G x.2 (M.ws.getD i (0, [])).2
  gr : G r
  gs : ∀ k, sv.ownBlock = some k → G k
  gw : ∀ k, wv.ownBlock = some k → G k
  lt : ∀ k, G k → k < w.heap.size
/-- The reference's device M lies at block r, and has no block outside G. -/
def RefAt (w : World) (r : Nat) (M : DM) (G : Nat → Prop) : Prop := M.Ok ∧ ∃ sv wv ss ws, RefP w r M G sv wv ss ws
section
variable {w : World} {r : Nat} {M : DM} {G : Nat → Prop} {sv wv : Value} {ss : List Value} {ws : List (Nat × Value)}
theorem RefP.c0 (h : RefP w r M G sv wv ss ws) : w.cell? ⟨r, 0, none⟩ = some sv := by rw [Blk.cell h.blk]; rfl
theorem RefP.c1 (h : RefP w r M G sv wv ss ws) : w.cell? ⟨r, 1, none⟩ = some wv := by rw [Blk.cell h.blk]; rfl
theorem RefP.c2 (h : RefP w r M G sv wv ss ws) : w.cell? ⟨r, 2, none⟩ = some (.int .i64 (leftR M)) := by rw [Blk.cell h.blk]; rfl
theorem RefP.c3 (h : RefP w r M G sv wv ss ws) : w.cell? ⟨r, 3, none⟩ = some (.bool M.off) := by rw [Blk.cell h.blk]; rfl
theorem RefP.c4 (h : RefP w r M G sv wv ss ws) : w.cell? ⟨r, 4, none⟩ = some (.int .i64 M.ops) := by rw [Blk.cell h.blk]; rfl
theorem RefP.fr (h : RefP w r M G sv wv ss ws) (i : Nat) : w.frozen? ⟨r, i, none⟩ = false := Blk.free h.blk i
theorem RefP.s_ne (h : RefP w r M G sv wv ss ws) : sv.ownBlock ≠ some r := fun e => by have := ownsRow_type h.srow e h.blk; cases this
theorem RefP.w_ne (h : RefP w r M G sv wv ss ws) : wv.ownBlock ≠ some r := fun e => by have := ownsRow_type h.wrow e h.blk; cases this
theorem RefP.p_ne (h : RefP w r M G sv wv ss ws) {v : Value} {l : List Int} (hp : Pg w G v l) : v.ownBlock ≠ some r := fun e => by have := hp.type e h.blk; cases this
theorem RefP.sslice (h : RefP w r M G sv wv ss ws) (hok : M.Ok) : ∃ g c, sv = .slice (some ⟨g, 0, none⟩) M.st.length c ∧ M.st.length ≤ c ∧ w.rangeAt g 0 ss ∧ G g ∧ ∃ cur, w.heap[g]? = some (.cells cur 23 (0, 0)) ∧ cur.toList.take (M.st.length * 1) = ss := by
  have hpos := hok.pos
  have h1 := h.srow
  rcases h1.2 with ⟨_, h0⟩ | ⟨g, cap, cur, rfl, _, hh, hc, _, _, ht⟩
  · omega
  · refine ⟨g, cap, rfl, hc, fun j u hu => ?_, h.gs g rfl, cur, hh, ht⟩
    have := h1.cells (g := g) rfl j u hu
    rw [Addr.add_mid] at this
    exact this
theorem RefP.wslice (h : RefP w r M G sv wv ss ws) {i : Nat} (hi : i < M.ws.length) : ∃ g c, wv = .slice (some ⟨g, 0, none⟩) M.ws.length c ∧ M.ws.length ≤ c ∧ G g ∧ w.rangeAt g (i * 2) (rcell (ws[i]'(by rw [h.wlen]; exact hi))) := by
  have h1 := h.wrow
  rcases h1.2 with ⟨_, h0⟩ | ⟨g, cap, cur, rfl, _, hh, hc, _, _, ht⟩
  · omega
  · refine ⟨g, cap, rfl, hc, h.gw g rfl, fun j u hu => ?_⟩
    have hf := flat_range rcell 2 ws (fun x _ => rfl) i (by rw [h.wlen]; exact hi)
    have hj : j < 2 := (List.getElem?_eq_some_iff.1 hu).1
    have := h1.cells (g := g) rfl (i * 2 + j) u (by
      rw [← hf, List.getElem?_take_of_lt hj, List.getElem?_drop] at hu
      exact hu)
    rw [Addr.add_mid, Nat.zero_add] at this
    exact this
theorem RefP.keep {w' : World} (h : RefP w r M G sv wv ss ws) {X : Nat → Prop} (hk : Kp X w w') (hX : ∀ k, G k → ¬ X k) : RefP w' r M G sv wv ss ws where
  blk := hk.keeps h.blk (hX _ h.gr)
  srow := ownsRow_keep h.srow (fun k hk' hl => hk.block k hl (hX _ (h.gs k hk')))
  wrow := ownsRow_keep h.wrow (fun k hk' hl => hk.block k hl (hX _ (h.gw k hk')))
  slen := h.slen
  wlen := h.wlen
  spg := fun i v hv => (h.spg i v hv).keep (fun _ => id) (fun k hk' => hk.block k (h.lt k ((h.spg i v hv).2 k hk')) (hX _ ((h.spg i v hv).2 k hk')))
  wpg := fun i x hx => ⟨(h.wpg i x hx).1, (h.wpg i x hx).2.keep (fun _ => id) (fun k hk' => hk.block k (h.lt k ((h.wpg i x hx).2.2 k hk')) (hX _ ((h.wpg i x hx).2.2 k hk')))⟩
  gr := h.gr
  gs := h.gs
  gw := h.gw
  lt := fun k hk' => Nat.lt_of_lt_of_le (h.lt k hk') hk.size
/-- Only the device's own block was written. -/
theorem RefP.field {w' : World} (h : RefP w r M G sv wv ss ws) {M' : DM} (hk : Kp (· = r) w w') (hst : M'.st = M.st) (hws : M'.ws = M.ws)
    (hb : Blk w' r [sv, wv, .int .i64 (leftR M'), .bool M'.off, .int .i64 M'.ops] 78) : RefP w' r M' G sv wv ss ws where
  blk := hb
  srow := by rw [hst]; exact ownsRow_keep h.srow (fun k hk' hl => hk.block k hl (fun e => h.s_ne (by rw [hk', e])))
  wrow := by rw [hws]; exact ownsRow_keep h.wrow (fun k hk' hl => hk.block k hl (fun e => h.w_ne (by rw [hk', e])))
  slen := by rw [hst]; exact h.slen
  wlen := by rw [hws]; exact h.wlen
  spg := fun i v hv => by rw [hst]; exact (h.spg i v hv).keep (fun _ => id) (fun k hk' => hk.block k (h.lt k ((h.spg i v hv).2 k hk')) (fun e => h.p_ne (h.spg i v hv) (by rw [hk', e])))
  wpg := fun i x hx => by rw [hws]; exact ⟨(h.wpg i x hx).1, (h.wpg i x hx).2.keep (fun _ => id) (fun k hk' => hk.block k (h.lt k ((h.wpg i x hx).2.2 k hk')) (fun e => h.p_ne (h.wpg i x hx).2 (by rw [hk', e])))⟩
  gr := h.gr
  gs := h.gs
  gw := h.gw
  lt := fun k hk' => Nat.lt_of_lt_of_le (h.lt k hk') hk.size
end
theorem RefAt.keep {w w' : World} {r : Nat} {M : DM} {G : Nat → Prop} (h : RefAt w r M G) {X : Nat → Prop} (hk : Kp X w w') (hX : ∀ k, G k → ¬ X k) : RefAt w' r M G := by
  obtain ⟨hok, sv, wv, ss, ws, hp⟩ := h
  exact ⟨hok, sv, wv, ss, ws, hp.keep hk hX⟩
theorem RefAt.lt {w : World} {r : Nat} {M : DM} {G : Nat → Prop} (h : RefAt w r M G) : ∀ k, G k → k < w.heap.size := by
  obtain ⟨hok, sv, wv, ss, ws, hp⟩ := h
  exact hp.lt

/-! ### Join -/
theorem ownsRow_empty (w : World) : (w.alloc (.cells #[] 5)).ownsRow 0 5 1 (.slice (some ⟨w.heap.size, 0, none⟩) 0 0) ([] : List Int).length (u8s []) :=
  ⟨rfl, .inr ⟨w.heap.size, 0, #[], rfl, Nat.zero_le _, heap_alloc_new w _, Nat.le_refl _, by decide, rfl, rfl⟩⟩
theorem run_bs0 (w : World) : (Instr.buildSlice 23 0 #[]).run Try.prog w = .ok (.slice (some ⟨w.heap.size, 0, none⟩) 0 0) (w.alloc (.cells #[] 5)) := by kernel_rfl
set_option maxHeartbeats 1000000 in
theorem join_at {w : World} {va vb : Value} {la lb : List Int} (ha : Bs w va la) (hb : Bs w vb lb) (hl : la.length + lb.length ≤ 1000000000000) : Calls Try.prog 47 #[va, vb] w fun e w' =>
    ∃ v, e = .returned v ∧ w'.ownsRow 0 5 1 v (la ++ lb).length (u8s (la ++ lb)) ∧ (∀ k, v.ownBlock = some k → w.heap.size ≤ k) ∧ Kp (fun _ => False) w w' := by
  have hbs := run_bs0
  have Ha := Hd.mk ha
  have Hb := Hd.mk hb
  have Hl := Hd.mk hl
  obtain ⟨Aa, ca, rfl, -, -⟩ := ha
  obtain ⟨Ab, cb, rfl, -, -⟩ := hb
  have He := Hd.mk (ownsRow_empty w)
  have Ke := Hd.mk ((Kp.refl (fun _ => False) w).alloc (.cells #[] 5))
  have Hs : Hd ((w.alloc (.cells #[] 5)).heap.size = w.heap.size + 1) := ⟨by simp⟩
  have Ha1 := Hd.mk (Ha.out.keep (w' := w.alloc (.cells #[] 5)) (fun b hb _ => Ke.out.block b hb id))
  clear hl
  go_enter Try.func47, Try.ntmps47
  have Hl1 := Hd.mk (show ([] : List Int).length + la.length ≤ 1000000000000 by have := Hl.out; simp; omega)
  go_wp2_with (first
    | ((with_reducible refine wl_appendBs rfl (.tmp 7) (.tmp 8) 23 rfl 5 Try.underlying23 info5z cells5z (.slice (some ⟨w.heap.size, 0, none⟩) 0 0) [] rfl He.out (.slice Aa la.length ca) la rfl Ha1.out Hl1.out ?_)
       intro v1 w1 h11 h12 h13
       rw [List.nil_append] at h11
       have H11 := Hd.mk h11
       have K1 := Hd.mk (Ke.out.andThen h12 (fun i hi e => by simp [Value.ownBlock] at e; omega))
       have F1 : Hd (∀ k, v1.ownBlock = some k → w.heap.size ≤ k) := ⟨fun k hk => by rcases h13 k hk with h | h; simp [Value.ownBlock] at h; omega; have := Hs.out; omega⟩
       have Hb1 := Hd.mk (Hb.out.keep (w' := w1) (fun b hb _ => K1.out.block b hb id))
       clear h11 h12 h13)
    | ((with_reducible refine wl_appendBs rfl (.tmp 10) (.tmp 11) 23 rfl 5 Try.underlying23 info5z cells5z v1 la rfl H11.out (.slice Ab lb.length cb) lb rfl Hb1.out Hl.out ?_)
       intro v2 w2 h21 h22 h23
       have H21 := Hd.mk h21
       have K2 := Hd.mk (K1.out.andThen h22 (fun i hi e => by have := F1.out i e; omega))
       have F2 : Hd (∀ k, v2.ownBlock = some k → w.heap.size ≤ k) := ⟨fun k hk => by rcases h23 k hk with h | h; exact F1.out k h; have := K1.out.size; omega⟩
       clear h21 h22 h23))
  go_ret
  exact ⟨_, rfl, H21.out, F2.out, K2.out⟩
theorem info42n : (Try.prog.info? 42).map (·.size) = some 1 := by kernel_rfl
section
variable {w : World} {r : Nat} {M : DM} {G : Nat → Prop}
set_option maxHeartbeats 400000 in
theorem is_at (h : RefAt w r M G) (p : Int) : Calls Try.prog 52 #[.pointer (some ⟨r, 0, none⟩), .int .i64 p] w fun e w' => e = .returned (.bool (decide (0 ≤ p ∧ p < M.st.length))) ∧ w = w' := by
  obtain ⟨hok, sv, wv, ss, ws, hp⟩ := h
  obtain ⟨g, c, rfl, -⟩ := hp.sslice hok
  have c0 := hp.c0
  clear hp hok
  generalize M.st.length = n at *
  by_cases e1 : 0 ≤ p
  · have e1' : decide (0 ≤ p) = true := by simpa using e1
    go_enter Try.func52, Try.ntmps52
    go_wp2_with fail
    go_ret
    exact ⟨ret_bool (by simp [e1]), rfl⟩
  · have e1' : decide (0 ≤ p) = false := by simpa using e1
    go_enter Try.func52, Try.ntmps52
    go_wp2_with fail
    go_ret
    exact ⟨ret_bool (by simp [e1]), rfl⟩
set_option maxHeartbeats 400000 in
theorem goes_at (h : RefAt w r M G) (hops : M.ops < 1073741824) : Calls Try.prog 53 #[.pointer (some ⟨r, 0, none⟩)] w fun e w' => e = .returned (.bool (!spendsB M)) ∧ RefAt w' r (spendsM M) G ∧ Kp (· = r) w w' := by
  obtain ⟨st, ws, off, armed, left, ops⟩ := M
  have hok' := h.1.spends hops
  obtain ⟨hok, sv, wv, ss, wws, hp⟩ := h
  have hfin : Hd (∀ M' w', M'.Ok → M'.st = st → M'.ws = ws → Blk w' r [sv, wv, .int .i64 (leftR M'), .bool M'.off, .int .i64 M'.ops] 78 → Kp (· = r) w w' → RefAt w' r M' G ∧ Kp (· = r) w w') :=
    Hd.mk fun M' w' hok h1 h2 hb hk => ⟨⟨hok, sv, wv, ss, wws, hp.field hk h1 h2 hb⟩, hk⟩
  have hblk := Hd.mk hp.blk
  have c2 := hp.c2
  have c3 := hp.c3
  have c4 := hp.c4
  have f2 := hp.fr 2
  have f3 := hp.fr 3
  have f4 := hp.fr 4
  have b1 := hok.left0
  have b2 := hok.left1
  have b3 := hok.ops0
  clear hp hok
  dsimp only [leftR] at *
  cases armed
  · go_enter Try.func53, Try.ntmps53
    go_wp2
    go_ret
    exact ⟨rfl, hfin.out _ _ hok' rfl rfl (hblk.out.set 4 (.int .i64 (ops + 1))) ((Kp.refl _ _).cell _ _)⟩
  · by_cases hl : left = 0
    · subst hl
      go_enter Try.func53, Try.ntmps53
      go_wp2
      go_ret
      exact ⟨rfl, hfin.out _ _ hok' rfl rfl (hblk.out.set 3 (.bool true)) ((Kp.refl _ _).cell _ _)⟩
    · have hl' : (left == 0) = false := by simpa using hl
      have hB : Hd (spendsB ⟨st, ws, off, true, left, ops⟩ = true) := Hd.mk (by simp [spendsB, hl'])
      have hM : Hd (spendsM ⟨st, ws, off, true, left, ops⟩ = ⟨st, ws, off, true, left - 1, ops + 1⟩) := Hd.mk (by simp [spendsM, hl'])
      have b1' : 1 ≤ left := by omega
      simp only [if_true] at c2
      clear hl
      go_enter Try.func53, Try.ntmps53
      go_wp2
      go_ret
      refine ⟨ret_bool (by rw [hB.out]; rfl), ?_⟩
      rw [hM.out] at hok' ⊢
      exact hfin.out _ _ hok' rfl rfl ((hblk.out.set 2 (.int .i64 (left - 1))).set 4 (.int .i64 (ops + 1))) (((Kp.refl _ _).cell _ _).cell _ _)
set_option maxHeartbeats 400000 in
theorem rarm_at (h : RefAt w r M G) (n : Int) (hn : n ≤ 9223372036854775807) : Calls Try.prog 44 #[.pointer (some ⟨r, 0, none⟩), .int .i64 n] w fun e w' => e = .returned (.int .i64 (armE M n)) ∧ RefAt w' r (armM M n) G ∧ Kp (· = r) w w' := by
  obtain ⟨st, ws, off, armed, left, ops⟩ := M
  have hself := Hd.mk h
  by_cases hneg : n < 0
  · clear h
    go_enter Try.func44, Try.ntmps44
    go_wp2_with fail
    go_ret
    refine ⟨ret_int (by rw [armE, if_pos hneg]), ?_, Kp.refl _ _⟩
    rw [armM, if_pos (.inl hneg)]; exact hself.out
  · obtain ⟨hok, sv, wv, ss, wws, hp⟩ := h
    have hfin : Hd (∀ M' w', M'.Ok → M'.st = st → M'.ws = ws → Blk w' r [sv, wv, .int .i64 (leftR M'), .bool M'.off, .int .i64 M'.ops] 78 → Kp (· = r) w w' → RefAt w' r M' G ∧ Kp (· = r) w w') :=
      Hd.mk fun M' w' hok h1 h2 hb hk => ⟨⟨hok, sv, wv, ss, wws, hp.field hk h1 h2 hb⟩, hk⟩
    have hok' : DM.Ok ⟨st, ws, off, true, n, ops⟩ := ⟨hok.pos, hok.most, hok.st, hok.ws, hok.few, by show 0 ≤ n; omega, hn, hok.ops0, hok.ops1⟩
    have hblk := Hd.mk hp.blk
    have c2 := hp.c2
    have c3 := hp.c3
    have f2 := hp.fr 2
    clear hp hok
    dsimp only at *
    cases off
    · go_enter Try.func44, Try.ntmps44
      go_wp2_with fail
      go_ret
      refine ⟨ret_int (by rw [armE, if_neg (by omega)]; rfl), ?_⟩
      rw [armM, if_neg (by simp; omega)]
      exact hfin.out _ _ hok' rfl rfl (hblk.out.set 2 (.int .i64 n)) ((Kp.refl _ _).cell _ _)
    · go_enter Try.func44, Try.ntmps44
      go_wp2_with fail
      go_ret
      refine ⟨ret_int (by rw [armE, if_neg (by omega)]; rfl), ?_, Kp.refl _ _⟩
      rw [armM, if_pos (.inr rfl)]; exact hself.out
set_option maxHeartbeats 400000 in
theorem rcalm_at (h : RefAt w r M G) : Calls Try.prog 45 #[.pointer (some ⟨r, 0, none⟩)] w fun e w' => e = .returned (.int .i64 (pwrE M)) ∧ RefAt w' r (calmM M) G ∧ Kp (· = r) w w' := by
  obtain ⟨st, ws, off, armed, left, ops⟩ := M
  have hself := Hd.mk h
  obtain ⟨hok, sv, wv, ss, wws, hp⟩ := h
  have hfin : Hd (∀ M' w', M'.Ok → M'.st = st → M'.ws = ws → Blk w' r [sv, wv, .int .i64 (leftR M'), .bool M'.off, .int .i64 M'.ops] 78 → Kp (· = r) w w' → RefAt w' r M' G ∧ Kp (· = r) w w') :=
    Hd.mk fun M' w' hok h1 h2 hb hk => ⟨⟨hok, sv, wv, ss, wws, hp.field hk h1 h2 hb⟩, hk⟩
  have hok' : DM.Ok ⟨st, ws, off, false, left, ops⟩ := ⟨hok.pos, hok.most, hok.st, hok.ws, hok.few, hok.left0, hok.left1, hok.ops0, hok.ops1⟩
  have hblk := Hd.mk hp.blk
  have c2 := hp.c2
  have c3 := hp.c3
  have f2 := hp.fr 2
  clear hp hok
  dsimp only at *
  cases off
  · go_enter Try.func45, Try.ntmps45
    go_wp2_with fail
    go_ret
    exact ⟨rfl, hfin.out _ _ hok' rfl rfl (hblk.out.set 2 (.int .i64 (-1))) ((Kp.refl _ _).cell _ _)⟩
  · go_enter Try.func45, Try.ntmps45
    go_wp2_with fail
    go_ret
    exact ⟨rfl, hself.out, Kp.refl _ _⟩
end
end Go.Proofs.Ytkcechpaeilaeaa
