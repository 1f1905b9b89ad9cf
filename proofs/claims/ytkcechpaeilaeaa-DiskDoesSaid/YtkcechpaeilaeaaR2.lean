/- The reference's device: shows, Read. -/
import Derived.Test.YtkcechpaeilaeaaR1
namespace Go.Proofs.Ytkcechpaeilaeaa
open Go.RowKit
set_option linter.unusedVariables false
set_option linter.unusedSimpArgs false
theorem lastI_none {p : Nat} : ∀ {ws : List (Nat × List Int)}, (∀ x ∈ ws, x.1 ≠ p) → lastI p ws = none
  | [], _ => rfl
  | x :: r, h => by
    unfold lastI
    rw [lastI_none (fun y hy => h y (by simp [hy])), if_neg (h x (by simp))]
theorem lastI_of {p : Nat} : ∀ {ws : List (Nat × List Int)} {k : Nat} (hk : k < ws.length), ws[k].1 = p → (∀ x ∈ ws.drop (k + 1), x.1 ≠ p) → lastI p ws = some k
  | [], k, hk, _, _ => absurd hk (by simp)
  | x :: r, 0, hk, h, hn => by
    unfold lastI
    rw [lastI_none (by simpa using hn)]
    simp only [List.getElem_cons_zero] at h
    rw [if_pos h]
  | x :: r, k + 1, hk, h, hn => by
    unfold lastI
    rw [lastI_of (ws := r) (k := k) (by simpa using hk) (by simpa using h) (by simpa using hn)]
section
variable {w : World} {r : Nat} {M : DM} {G : Nat → Prop}
set_option maxHeartbeats 1000000 in
theorem shows_at (h : RefAt w r M G) (p : Nat) (hp : p < M.st.length) : Calls Try.prog 54 #[.pointer (some ⟨r, 0, none⟩), .int .i64 p] w fun e w' => ∃ v, e = .returned v ∧ Pg w G v (shownM M p) ∧ w = w' := by
  obtain ⟨hok, sv, wv, ss, ws, hP⟩ := h
  obtain ⟨gs, cs, hsv, hcs, hsr, -, -⟩ := hP.sslice hok
  obtain ⟨A, cw, hwv, -⟩ := ownsRow_len hP.wrow
  have c0 := hP.c0
  have c1 := hP.c1
  rw [hsv] at c0
  rw [hwv] at c1
  have HP := Hd.mk hP
  have Hok := Hd.mk hok
  have Hwv := Hd.mk hwv
  have hm : (M.ws.length : Int) ≤ 1073741824 := by have := hok.few; omega
  have hpI : (p : Int) < (M.st.length : Int) := by omega
  have Hsr := Hd.mk hsr
  have Hp := Hd.mk hp
  clear hP hok hwv hsv hcs hsr hp
  go_enter Try.func54, Try.ntmps54
  go_wp2_with fail
  go_loop [5] (fun v5 => ∃ k : Nat, v5 = .int .i64 ((k : Int) - 1) ∧ k ≤ M.ws.length ∧ Hd (∀ x ∈ M.ws.drop k, x.1 ≠ p)) (fun v5 => (intOf v5 + 1).toNat)
  case atStart => exact ⟨M.ws.length, rfl, Nat.le_refl _, ⟨by simp⟩⟩
  case round =>
    obtain ⟨k, rfl, hk, HN⟩ := hrel
    rcases Nat.eq_zero_or_pos k with rfl | hkp
    · have hsh : Hd (shownM M p = M.st.getD p []) := ⟨by
        unfold shownM
        rw [lastI_none (by simpa using HN.out)]⟩
      have hlt := Hp.out
      have hpg := HP.out.spg p _ (List.getElem?_eq_getElem (by rw [HP.out.slen]; exact hlt))
      have hcell := Hsr.out p _ (List.getElem?_eq_getElem (by rw [HP.out.slen]; exact hlt))
      rw [Nat.zero_add] at hcell
      rw [← hsh.out] at hpg
      have Hpg := Hd.mk hpg
      obtain ⟨g, c, hv, -⟩ := hpg.slice
      generalize ss[p]'(by rw [HP.out.slen]; exact hlt) = v at *
      subst hv
      clear hlt hk hpg
      go_wp2_with fail
      go_ret
      exact ⟨_, rfl, Hpg.out, rfl⟩
    · obtain ⟨i, rfl⟩ : ∃ i, k = i + 1 := ⟨k - 1, by omega⟩
      have hi : i < M.ws.length := hk
      have hil : i < ws.length := by rw [HP.out.wlen]; exact hi
      obtain ⟨g, c, hwv2, hc, -, hr⟩ := HP.out.wslice hi
      rw [Hwv.out] at hwv2
      injection hwv2 with e1 e2 e3
      subst e1 e3
      clear e2
      obtain ⟨hx1, hpg⟩ := HP.out.wpg i _ (List.getElem?_eq_getElem hil)
      rw [getD_at _ _ _ hi] at hx1 hpg
      have hc1 : w.cell? ⟨g, i * 2, none⟩ = some (.int .i64 (ws[i].1 : Int)) := hr 0 _ rfl
      have hc2 : w.cell? ⟨g, i * 2 + 1, none⟩ = some ws[i].2 := hr 1 _ rfl
      rw [hx1] at hc1
      have hdrop : M.ws.drop i = M.ws[i] :: M.ws.drop (i + 1) := List.drop_eq_getElem_cons hi
      have hsome := @lastI_of p M.ws i hi
      have hsh : Hd (M.ws[i].1 = p → shownM M p = M.ws[i].2) := ⟨fun e => by
        unfold shownM
        rw [hsome e HN.out]
        simp only
        rw [getD_at _ _ _ hi]⟩
      have hnext : Hd (M.ws[i].1 ≠ p → ∀ x ∈ M.ws.drop i, x.1 ≠ p) := ⟨fun e x hx => by
        rw [hdrop] at hx
        rcases List.mem_cons.1 hx with rfl | hx
        · exact e
        · exact HN.out x hx⟩
      obtain ⟨g2, c2, hv, -⟩ := hpg.slice
      have Hpg := Hd.mk hpg
      have hiI : (i : Int) < (M.ws.length : Int) := by omega
      have Hi := Hd.mk hi
      generalize ws[i].2 = v at *
      subst hv
      have e0 : ((i + 1 : Nat) : Int) - 1 = (i : Int) := by omega
      rw [e0]
      generalize M.ws[i] = x at *
      clear hk hkp hil hr hx1 hdrop hsome hpg hi e0
      obtain ⟨q, bb⟩ := x
      dsimp only at *
      by_cases e : q = p
      · have hsh2 := Hd.mk (hsh.out e)
        have eB : ((q : Int) == (p : Int)) = true := by simp [e]
        clear e hsh hnext
        go_wp2_with fail
        go_ret
        refine ⟨_, rfl, ?_, rfl⟩
        rw [hsh2.out]
        exact Hpg.out
      · have hn2 := Hd.mk (hnext.out e)
        have eB : ((q : Int) == (p : Int)) = false := by simp; omega
        clear e hsh hnext
        go_wp2_with fail
        exact ⟨⟨i, rfl, Nat.le_of_lt Hi.out, hn2⟩, by have := Hi.out; simp [intOf] <;> omega⟩
set_option maxHeartbeats 1000000 in
theorem rread_no (h : RefAt w r M G) (p : Int) (hno : (readE M p != 0) = true) : Calls Try.prog 49 #[.pointer (some ⟨r, 0, none⟩), .int .i64 p] w fun e w' => e = .returned (.tuple #[.slice none 0 0, .int .i64 (readE M p)]) ∧ w = w' := by
  have his := Hd.mk (is_at h p)
  obtain ⟨hok, sv, wv, ss, ws, hP⟩ := h
  have c3 := hP.c3
  have hE : Hd (readE M p = if p < 0 ∨ (M.st.length : Int) ≤ p ∨ (256 : Int) ≠ 256 then 1 else pwrE M) := Hd.mk rfl
  have hW : Hd (pwrE M = if M.off then 5 else 0) := Hd.mk rfl
  have Hno := Hd.mk hno
  clear hP hok hno
  by_cases e : 0 ≤ p ∧ p < M.st.length
  · rw [decide_eq_true e] at his
    have hE2 : readE M p = pwrE M := by rw [hE.out, if_neg (by omega)]
    have hoff : M.off = true := by
      cases ho : M.off
      · have := Hno.out
        rw [hE2, hW.out, ho] at this
        simp at this
      · rfl
    have hE3 : Hd (readE M p = 5) := ⟨by rw [hE2, hW.out, hoff]; rfl⟩
    rw [hoff] at c3
    clear e hE2 hoff
    go_enter Try.func49, Try.ntmps49
    go_wp2_with (first | (go_at_call 52; refine his.out.mono ?_; rintro e w' ⟨rfl, rfl⟩))
    go_ret2
    exact ⟨by rw [hE3.out]; rfl, rfl⟩
  · rw [decide_eq_false e] at his
    have hE2 : Hd (readE M p = 1) := ⟨by rw [hE.out, if_pos (by omega)]⟩
    clear e
    go_enter Try.func49, Try.ntmps49
    go_wp2_with (first | (go_at_call 52; refine his.out.mono ?_; rintro e w' ⟨rfl, rfl⟩))
    go_ret2
    exact ⟨by rw [hE2.out]; rfl, rfl⟩
theorem Bs_nil (w : World) : Bs w (.slice none 0 0) [] := ⟨none, 0, rfl, Nat.le_refl _, .inl rfl⟩
set_option maxHeartbeats 1000000 in
theorem rread_yes (h : RefAt w r M G) (p : Nat) (hyes : readE M p = 0) : Calls Try.prog 49 #[.pointer (some ⟨r, 0, none⟩), .int .i64 p] w fun e w' =>
    ∃ v, e = .returned (.tuple #[v, .int .i64 0]) ∧ w'.ownsRow 0 5 1 v 256 (u8s (shownM M p)) ∧ (∀ k, v.ownBlock = some k → w.heap.size ≤ k) ∧ Kp (fun _ => False) w w' := by
  have hpl : p < M.st.length := by
    unfold readE atE at hyes
    split at hyes
    · cases hyes
    · omega
  have hoff : M.off = false := by
    unfold readE atE at hyes
    split at hyes
    · cases hyes
    · cases ho : M.off
      · rfl
      · rw [pwrE, ho] at hyes; cases hyes
  have his := is_at h p
  rw [decide_eq_true (by omega)] at his
  have his := Hd.mk his
  have hsh := Hd.mk (shows_at h p hpl)
  obtain ⟨hok, sv, wv, ss, ws, hP⟩ := h
  have c3 := hP.c3
  rw [hoff] at c3
  clear hP hok hyes hpl hoff
  go_enter Try.func49, Try.ntmps49
  go_wp2_with (first
    | (go_at_call 52; refine his.out.mono ?_; rintro e w' ⟨rfl, rfl⟩)
    | (go_at_call 54; (with_reducible refine hsh.out.mono ?_); rintro e w' ⟨v, rfl, hv, rfl⟩; have Hv := Hd.mk hv; clear hv)
    | (go_at_call 47; (with_reducible refine (join_at (Bs_nil w) Hv.out.bs (by rw [Hv.out.len]; simp)).mono ?_); rintro e w2 ⟨v2, rfl, h21, h22, h23⟩; rw [List.nil_append, Hv.out.len] at h21; have H21 := Hd.mk h21; have H22 := Hd.mk h22; have H23 := Hd.mk h23; clear h21 h22 h23))
  go_ret2
  exact ⟨_, rfl, H21.out, H22.out, H23.out⟩
end
end Go.Proofs.Ytkcechpaeilaeaa
