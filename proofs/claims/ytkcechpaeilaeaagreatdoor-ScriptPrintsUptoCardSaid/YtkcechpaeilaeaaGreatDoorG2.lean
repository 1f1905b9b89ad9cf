/- A text's lines, as the document cuts them. -/
import Derived.Test.YtkcechpaeilaeaaGreatDoorG1
namespace Go.Proofs.YtkcechpaeilaeaaGreatDoor
open Go.RowKit
set_option linter.unusedVariables false
set_option linter.unusedSimpArgs false
set_option maxRecDepth 100000

theorem kp_alloc (w : World) (o : Obj) : Kp (fun _ => False) w (w.alloc o) := (Kp.refl _ w).alloc o
theorem size_alloc (w : World) (o : Obj) : (w.alloc o).heap.size = w.heap.size + 1 := by show (w.heap.push _).size = _; simp
set_option maxHeartbeats 1000000 in
theorem all_at (s : List UInt8) (hl : s.length ≤ 100000) (w : World) : Calls Tryz.prog 58 #[.string ⟨s.toArray⟩] w fun e w' => (∃ v, e = .returned v ∧ Or w.heap.size 9 1 w' v (lnGo [] s).length (wcl (lnGo [] s))) ∧ Kp (fun _ => False) w w' := by
  have hl := Hd.mk hl
  have hA0 : Hd (An w.heap.size s w (w.alloc (.cells #[] 9)) (.slice (some ⟨w.heap.size, 0, none⟩) 0 0) [] 0 0) := ⟨⟨Or.fresh w w.heap.size 9 1 (Nat.le_refl _), Nat.le_refl _, Nat.le_refl _, by simp, (Below.refl _ w).alloc (Nat.le_refl _) _⟩⟩
  go_enter Tryz.func58, Tryz.ntmps58
  go_wp2_with fail
  go_loopw [5, 3, 4] (fun v5 v3 v4 wr => ∃ (i f : Nat) (out : List (List UInt8)), v5 = .int .i64 i ∧ v4 = .int .i64 f ∧ (i : Int) ≤ s.length ∧ Hd (An w.heap.size s w wr v3 out f i)) (fun v5 _ _ _ => s.length - (intOf v5).toNat)
  case atStart => exact ⟨0, 0, [], rfl, rfl, by omega, hA0⟩
  case round =>
    clear hA0
    obtain ⟨i, f, out, rfl, rfl, hi, hA⟩ := hrel
    by_cases hlt : i < s.length
    · have hlt2 : (i : Int) < s.length := by omega
      obtain ⟨c, hc⟩ : ∃ c, Hd (s[i]? = some c) := ⟨_, ⟨List.getElem?_eq_getElem hlt⟩⟩
      by_cases h10 : c = 10
      · subst h10
        have hx : Hd (decide (((10 : UInt8).toNat : Int) = 10) = true) := ⟨by decide⟩
        have hle := Hd.mk hA.out.le
        have hle2 : Hd (i ≤ s.length) := ⟨by omega⟩
        have hn : Hd (out.length ≤ 1000000000) := ⟨by have := hA.out.len; have := hl.out; omega⟩
        have hwr : Hd (w.heap.size ≤ (wr.alloc (.cells #[.string ⟨((s.drop f).take (i - f)).toArray⟩] 9)).heap.size) := ⟨by rw [size_alloc]; exact Nat.le_succ_of_le hA.out.below.size⟩
        have hO := Hd.mk (hA.out.row.keep (kp_alloc wr (.cells #[.string ⟨((s.drop f).take (i - f)).toArray⟩] 9)))
        clear hlt
        go_wp2_with (first | (with_reducible refine wl_run rfl (ex_sidx _ 9 (.tmp 13) (.tmp 14) rfl Tryz.underlying9 .i64 s i 10 hc.out i rfl rfl rfl) ?_) | ((with_reducible refine wl_run rfl (ex_eql _ 5 5 (.tmp 15) (.const (.int .u8 10)) rfl .u8 ((10 : UInt8).toNat : Int) 10 rfl rfl true hx.out) ?_); simp only [Act.put, List.setIfInBounds_toArray, List.set_cons_zero, List.set_cons_succ]) | (with_reducible refine wl_run rfl (ex_scut _ 9 (.tmp 18) (.tmp 19) (.tmp 20) rfl Tryz.underlying9 s .i64 f i hle.out hle2.out rfl rfl rfl) ?_) | ((with_reducible refine wl_or rfl (.tmp 17) (.tmp 22) 48 rfl 9 1 16 Tryz.underlying48 info9b rfl (by decide) (by decide) _ _ _ rfl hO.out hwr.out wr.heap.size 1 [.string ⟨((s.drop f).take (i - f)).toArray⟩] rfl rfl (one_new _ _ _) (by simp [Value.oneCell']) hn.out ?_); intro v' w2 ho hb2; have ho := Hd.mk ho; have hb2 := Hd.mk hb2))
        exact ⟨⟨i + 1, i + 1, _, by go_num, by go_num, by omega, ⟨hA.out.nl hc.out ho.out (((Below.refl _ wr).alloc hA.out.below.size _).trans hb2.out)⟩⟩, by simp [intOf]; omega⟩
      · have hx : Hd (decide ((c.toNat : Int) = 10) = false) := ⟨decide_eq_false (fun h => h10 (by
          have h2 : c.toNat = (10 : UInt8).toNat := by
            have : (10 : UInt8).toNat = 10 := rfl
            omega
          exact UInt8.toNat_inj.1 h2))⟩
        clear hlt
        go_wp2_with (first | (with_reducible refine wl_run rfl (ex_sidx _ 9 (.tmp 13) (.tmp 14) rfl Tryz.underlying9 .i64 s i c hc.out i rfl rfl rfl) ?_) | ((with_reducible refine wl_run rfl (ex_eql _ 5 5 (.tmp 15) (.const (.int .u8 10)) rfl .u8 (c.toNat : Int) 10 rfl rfl false hx.out) ?_); simp only [Act.put, List.setIfInBounds_toArray, List.set_cons_zero, List.set_cons_succ]))
        exact ⟨⟨i + 1, f, out, by go_num, rfl, by omega, ⟨hA.out.ch hc.out h10⟩⟩, by simp [intOf]; omega⟩
    · have hi2 : Hd (i = s.length) := ⟨by omega⟩
      have hi3 : (i : Int) = s.length := by omega
      by_cases hf : f < s.length
      · have hf2 : (f : Int) < s.length := by omega
        have hle : Hd (f ≤ s.length) := ⟨by omega⟩
        have hn : Hd (out.length ≤ 1000000000) := ⟨by have := hA.out.len; have := hl.out; omega⟩
        have hwr : Hd (w.heap.size ≤ (wr.alloc (.cells #[.string ⟨(s.drop f).toArray⟩] 9)).heap.size) := ⟨by rw [size_alloc]; exact Nat.le_succ_of_le hA.out.below.size⟩
        have hO := Hd.mk (hA.out.row.keep (kp_alloc wr (.cells #[.string ⟨(s.drop f).toArray⟩] 9)))
        have he := Hd.mk (hA.out.fin2 hi2.out hf)
        clear hlt hf
        go_wp2_with (first | (with_reducible refine wl_run rfl (ex_sfrom _ 9 (.tmp 31) (.tmp 32) rfl Tryz.underlying9 s .i64 f hle.out rfl rfl) ?_) | ((with_reducible refine wl_or rfl (.tmp 30) (.tmp 34) 48 rfl 9 1 16 Tryz.underlying48 info9b rfl (by decide) (by decide) _ _ _ rfl hO.out hwr.out wr.heap.size 1 [.string ⟨(s.drop f).toArray⟩] rfl rfl (one_new _ _ _) (by simp [Value.oneCell']) hn.out ?_); intro v' w2 ho hb2; have ho := Hd.mk ho; have hb2 := Hd.mk hb2))
        go_ret
        refine ⟨⟨_, rfl, ?_⟩, Kp.of_below (hA.out.below.trans (((Below.refl _ wr).alloc hA.out.below.size _).trans hb2.out)) _⟩
        rw [← he.out, wcl_app, List.length_append]
        exact ho.out
      · have hf2 : ¬ (f : Int) < s.length := by omega
        have he := Hd.mk (hA.out.fin hi2.out hf)
        clear hlt hf
        go_wp2_with fail
        go_ret
        refine ⟨⟨_, rfl, ?_⟩, Kp.of_below hA.out.below _⟩
        rw [← he.out]
        exact hA.out.row
end Go.Proofs.YtkcechpaeilaeaaGreatDoor
