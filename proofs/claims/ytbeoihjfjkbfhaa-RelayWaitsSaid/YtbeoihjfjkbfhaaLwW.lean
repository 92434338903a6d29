/-
  RelayWaits: questions of fewer askers than necessary are never given out. Nothing is asked.
-/
import Derived.Test.YtbeoihjfjkbfhaaWtP
namespace Go.Proofs.Ytbeoihjfjkbfhaa
set_option linter.unusedVariables false
set_option linter.unusedSimpArgs false
open Go.RowKit
set_option maxRecDepth 100000 in
set_option maxHeartbeats 8000000 in
theorem waits_walk (v : Value) (ls : List Int) (x y : Int) (hx : 0 ≤ x ∧ x < 256) (hy : 0 ≤ y ∧ y < 256) (w : World) (hl : IRd w v ls) :
    Calls Try.prog 7 #[v, .int .u8 x, .int .u8 y] w fun e w' => e = .returned (.bool true) ∧ Ext w w' := by
  obtain ⟨base, cp, rfl⟩ : ∃ base cp, v = .slice base ls.length cp := by
    obtain ⟨A, cap, h1, -⟩ := hl
    exact ⟨A, cap, h1⟩
  have hlen : ls.length ≤ 9223372036854775807 := by
    obtain ⟨A, cap, h1, h2, -⟩ := hl
    exact h2
  obtain ⟨n, hn⟩ : ∃ n, n = x % 4 + 1 := ⟨_, rfl⟩
  obtain ⟨need, hneed⟩ : ∃ need, need = x % 4 + 1 + 1 + y % 3 := ⟨_, rfl⟩
  have n1 : 1 ≤ n := by omega
  have n2 : n ≤ 4 := by omega
  have n3 : n < need := by omega
  have n4 : need ≤ 10 := by omega
  go_enter Try.func7, Try.ntmps7
  go_upto_region 4 with (first
    | (go_at_call 11; (with_reducible refine (sanity_any _).mono ?_); rintro e w1 ⟨rfl, hx1⟩)
    | (go_at_call 12; refine (new_x _ 1 _ (okI_small (by omega)) (okI_small (by decide))).mono ?_; rintro e w2 ⟨rfl, hr2, hx2⟩))
  rw [← hneed] at hr2 ⊢
  rw [← hn]
  clear hneed hn
  have hl1 : IRd w1 (.slice base ls.length cp) ls := hl.ext hx1
  have HX1 := Lib.hid hx1; have HX2 := Lib.hid hx2; have HR2 := Lib.hid hr2
  have HL1 := Lib.hid hl1; have HLEN := Lib.hid hlen
  clear hx1 hx2 hr2 hl hl1 hlen
  obtain ⟨p, hp⟩ : ∃ p, p = w1.heap.size := ⟨_, rfl⟩
  rw [← hp]
  have HP := Lib.hid hp
  clear hp
  go_wp2_with (fail)
  go_loopw [10] (fun k wr => ∃ (i : Nat) (r : Rl), k = .int .i64 i ∧ i ≤ 20 ∧ i ≤ ls.length ∧ Hid (WI need n r) ∧ Hid (RX p wr p r) ∧ Hid (Ext w1 wr)) (fun k _ => 20 - (iof k).toNat)
  case atStart => exact ⟨0, _, rfl, by omega, Nat.zero_le _, Lib.hid ⟨rfl, rfl, rfl, by simp⟩, Lib.hid (HP.out ▸ HR2.out), HX2⟩
  case round =>
    obtain ⟨i, r, rfl, hi, hil, HW, HRX, HX⟩ := hrel
    by_cases hi2 : i < ls.length ∧ i < 20
    · obtain ⟨hi3, hi4⟩ := hi2
      obtain ⟨b, off, rfl, bl, c0, hok⟩ := ird_at (HL1.out.ext HX.out) i hi3
      obtain ⟨m, hm⟩ : ∃ m, m = (i : Int) % n := ⟨_, rfl⟩
      have m0 : 0 ≤ m := by rw [hm]; exact Int.emod_nonneg _ (by omega)
      have m1 : m < n := by rw [hm]; exact Int.emod_lt_of_pos _ (by omega)
      have hT := text_any ls[i]
      generalize ls[i] = z at *
      have HT := Lib.hid (fun w => hT w hok)
      clear hT
      have hn0 : ¬ n = 0 := by omega
      have hw2 : IntKind.i64.wrap (2 * (i : Int)) = 2 * (i : Int) := by rw [IntKind.wrap_i64]; omega
      have hwm : (i : Int).tmod n = m := by rw [hm]; exact Int.tmod_eq_emod_of_nonneg (by omega)
      have HM := Lib.hid hm
      clear hm
      have hlc : (i : Int) < (ls.length : Int) := by omega
      have hi20 : (i : Int) < 20 := by omega
      go_upto_region 9 with (fail)
      refine Rr.wp_region [(0, .y), (1, .y), (2, .y), (3, .y), (4, .y), (5, .y), (6, .y), (7, .y), (8, .y), (9, .y), (10, .y)] (fun _ => (.cells #[] 29, Rg.ptr)) (by kernel_rfl) (by kernel_rfl) ?_
      (refine Rr.wr_y (by simp only [List.getElem?_toArray, List.getElem?_cons_succ, List.getElem?_cons_zero]; rfl) (by rfl) ?_
       apply Exists.intro
       refine ⟨fun wz hw _ => ?_, ?_⟩
       · have hcz := hw.cells.1
         go_simp
         (with_reducible exact Rg.up_value)
       simp only [Act.put, List.setIfInBounds_toArray, List.set_cons_zero, List.set_cons_succ])
      (refine Rr.wr_y (by simp only [List.getElem?_toArray, List.getElem?_cons_succ, List.getElem?_cons_zero]; rfl) (by rfl) ?_
       apply Exists.intro
       refine ⟨fun wz hw _ => ?_, ?_⟩
       · have hcz := hw.cells.1
         go_simp
         (with_reducible exact Rg.up_value)
       simp only [Act.put, List.setIfInBounds_toArray, List.set_cons_zero, List.set_cons_succ])
      (refine Rr.wr_y (by simp only [List.getElem?_toArray, List.getElem?_cons_succ, List.getElem?_cons_zero]; rfl) (by rfl) ?_
       apply Exists.intro
       refine ⟨fun wz hw _ => ?_, ?_⟩
       · have hcz := hw.cells.1
         go_simp
         (with_reducible exact Rg.up_value)
       simp only [Act.put, List.setIfInBounds_toArray, List.set_cons_zero, List.set_cons_succ])
      (refine Rr.wr_y (by simp only [List.getElem?_toArray, List.getElem?_cons_succ, List.getElem?_cons_zero]; rfl) (by rfl) ?_
       apply Exists.intro
       refine ⟨fun wz hw _ => ?_, ?_⟩
       · have hcz := hw.cells.1
         go_simp
         (with_reducible exact Rg.up_value)
       simp only [Act.put, List.setIfInBounds_toArray, List.set_cons_zero, List.set_cons_succ])
      (refine Rr.wr_y (by simp only [List.getElem?_toArray, List.getElem?_cons_succ, List.getElem?_cons_zero]; rfl) (by rfl) ?_
       apply Exists.intro
       refine ⟨fun wz hw _ => ?_, ?_⟩
       · have hcz := hw.cells.1
         go_simp
         (with_reducible exact Rg.up_value)
       simp only [Act.put, List.setIfInBounds_toArray, List.set_cons_zero, List.set_cons_succ])
      (refine Rr.wr_y (by simp only [List.getElem?_toArray, List.getElem?_cons_succ, List.getElem?_cons_zero]; rfl) (by rfl) ?_
       apply Exists.intro
       refine ⟨fun wz hw _ => ?_, ?_⟩
       · have hcz := hw.cells.1
         go_simp
         (with_reducible exact Rg.up_value)
       simp only [Act.put, List.setIfInBounds_toArray, List.set_cons_zero, List.set_cons_succ])
      (refine Rr.wr_y (by simp only [List.getElem?_toArray, List.getElem?_cons_succ, List.getElem?_cons_zero]; rfl) (by rfl) ?_
       apply Exists.intro
       refine ⟨fun wz hw _ => ?_, ?_⟩
       · have hcz := hw.cells.1
         go_simp
         (with_reducible exact Rg.up_value)
       simp only [Act.put, List.setIfInBounds_toArray, List.set_cons_zero, List.set_cons_succ])
      (refine Rr.wr_y (by simp only [List.getElem?_toArray, List.getElem?_cons_succ, List.getElem?_cons_zero]; rfl) (by rfl) ?_
       apply Exists.intro
       refine ⟨fun wz hw _ => ?_, ?_⟩
       · have hcz := hw.cells.1
         go_simp
         (with_reducible exact Rg.up_value)
       simp only [Act.put, List.setIfInBounds_toArray, List.set_cons_zero, List.set_cons_succ])
      (refine Rr.wr_y (by simp only [List.getElem?_toArray, List.getElem?_cons_succ, List.getElem?_cons_zero]; rfl) (by rfl) ?_
       apply Exists.intro
       refine ⟨fun wz hw _ => ?_, ?_⟩
       · have hcz := hw.cells.1
         go_simp
         (with_reducible exact Rg.up_value)
       simp only [Act.put, List.setIfInBounds_toArray, List.set_cons_zero, List.set_cons_succ])
      (refine Rr.wr_y (by simp only [List.getElem?_toArray, List.getElem?_cons_succ, List.getElem?_cons_zero]; rfl) (by rfl) ?_
       apply Exists.intro
       refine ⟨fun wz hw _ => ?_, ?_⟩
       · have hcz := hw.cells.1
         go_simp
         (with_reducible exact Rg.up_value)
       simp only [Act.put, List.setIfInBounds_toArray, List.set_cons_zero, List.set_cons_succ])
      (refine Rr.wr_y (by simp only [List.getElem?_toArray, List.getElem?_cons_succ, List.getElem?_cons_zero]; rfl) (by rfl) ?_
       apply Exists.intro
       refine ⟨fun wz hw _ => ?_, ?_⟩
       · have hcz := hw.cells.1
         go_simp
         apply Rg.up_enter
         (with_reducible refine (HT.out _).mono ?_)
         rintro e w3 ⟨rfl, hb3⟩
         exact ⟨rfl, hb3⟩
       simp only [Act.put, List.setIfInBounds_toArray, List.set_cons_zero, List.set_cons_succ])
      refine Rr.wr_nil ?_
      intro wy hy hh
      clear hh
      simp only [List.length_cons, List.length_nil, List.drop_succ_cons, List.drop_zero, Nat.reduceAdd]
      have hAsk := ask_x (HRX.out.ext hy) ⟨m, txtF z⟩ (2 * (i : Int)) (okI_small (by simp only; omega)) (okI_small (by omega)) _ _ rfl rfl
      have hW1 := HW.out.ask ⟨m, txtF z⟩ (2 * (i : Int)) m0 m1
      generalize askR r ⟨m, txtF z⟩ (2 * (i : Int)) = r1 at *
      generalize askE r ⟨m, txtF z⟩ (2 * (i : Int)) = er at *
      have hTk := tick_few hW1 (by omega) n3 (2 * (i : Int) + 1)
      have HA := Lib.hid hAsk; have HTK := Lib.hid (fun w' (h : RX p w' p r1) => tick_x h (2 * (i : Int) + 1) (okI_small (by omega)) none _ hTk.1 rfl)
      have HW2 := Lib.hid hTk.2
      have HXY := Lib.hid (HX.out.trans hy)
      clear hAsk hTk hy hW1 hwm hw2
      go_wp2_with (first
        | (go_at_call 20; (with_reducible refine HA.out.mono ?_); rintro e w3 ⟨rfl, hr3, hb3⟩)
        | (go_at_call 16; (with_reducible refine (HTK.out _ hr3).mono ?_); rintro e w4 ⟨v4, rfl, hv4, hr4, hb4⟩; have h9 : v4 = .slice none 0 0 := hv4; clear hv4; subst h9))
      exact ⟨⟨i + 1, _, by simp, by omega, by omega, HW2, Lib.hid hr4, Lib.hid (Below.trans (Below.trans HXY.out (HP.out ▸ hb3)) (HP.out ▸ hb4))⟩, by simp [iof]; omega⟩
    · have hTk := tick_few HW.out (by omega) n3 1000
      have HTK := Lib.hid (fun w' (h : RX p w' p r) => tick_x h 1000 (okI_small (by decide)) none _ hTk.1 rfl)
      have hW2 := hTk.2
      generalize (tickF r 1000).2 = r2 at *
      have hCl := close_few hW2 (by omega) n3
      have HCL := Lib.hid (fun w' (h : RX p w' p r2) => close_x h none _ hCl.1 rfl)
      have HL0 := hCl.2
      generalize (closeF r2).2 = r3 at *
      have HWT := Lib.hid (fun w' (h : RX p w' p r3) => waiting_x h 0 (by rw [HL0]; rfl))
      clear hTk hW2 hCl HL0
      have hcnd : i < 20 → ¬ i < ls.length := fun h1 h2 => hi2 ⟨h2, h1⟩
      by_cases hi4 : i < 20
      · have hi5 : ¬ (i : Int) < (ls.length : Int) := by have := hcnd hi4; omega
        clear hcnd hi2
        go_wp2_with (first
          | (go_at_call 16; (with_reducible refine (HTK.out _ HRX.out).mono ?_); rintro e w4 ⟨v4, rfl, hv4, hr4, hb4⟩; have h9 : v4 = .slice none 0 0 := hv4; clear hv4; subst h9)
          | (go_at_call 18; (with_reducible refine (HCL.out _ hr4).mono ?_); rintro e w5 ⟨v5, rfl, hv5, hr5, hb5⟩; have h9 : v5 = .slice none 0 0 := hv5; clear hv5; subst h9)
          | (go_at_call 22; (with_reducible refine (HWT.out _ hr5).mono ?_); rintro e w6 ⟨rfl, hw6⟩; have h9 := hw6.symm; clear hw6; subst h9))
        go_ret
        exact ⟨rfl, HX1.out.trans (Below.trans (Below.trans HX.out (HP.out ▸ hb4)) (HP.out ▸ hb5))⟩
      · have hi5 : ¬ (i : Int) < 20 := by omega
        have hi20 : i = 20 := by omega
        subst hi20
        clear hcnd hi2
        by_cases hi6 : (20 : Int) < (ls.length : Int)
        · skip
          go_wp2_with (first
            | (go_at_call 16; (with_reducible refine (HTK.out _ HRX.out).mono ?_); rintro e w4 ⟨v4, rfl, hv4, hr4, hb4⟩; have h9 : v4 = .slice none 0 0 := hv4; clear hv4; subst h9)
            | (go_at_call 18; (with_reducible refine (HCL.out _ hr4).mono ?_); rintro e w5 ⟨v5, rfl, hv5, hr5, hb5⟩; have h9 : v5 = .slice none 0 0 := hv5; clear hv5; subst h9)
            | (go_at_call 22; (with_reducible refine (HWT.out _ hr5).mono ?_); rintro e w6 ⟨rfl, hw6⟩; have h9 := hw6.symm; clear hw6; subst h9))
          go_ret
          exact ⟨rfl, HX1.out.trans (Below.trans (Below.trans HX.out (HP.out ▸ hb4)) (HP.out ▸ hb5))⟩
        · skip
          go_wp2_with (first
            | (go_at_call 16; (with_reducible refine (HTK.out _ HRX.out).mono ?_); rintro e w4 ⟨v4, rfl, hv4, hr4, hb4⟩; have h9 : v4 = .slice none 0 0 := hv4; clear hv4; subst h9)
            | (go_at_call 18; (with_reducible refine (HCL.out _ hr4).mono ?_); rintro e w5 ⟨v5, rfl, hv5, hr5, hb5⟩; have h9 : v5 = .slice none 0 0 := hv5; clear hv5; subst h9)
            | (go_at_call 22; (with_reducible refine (HWT.out _ hr5).mono ?_); rintro e w6 ⟨rfl, hw6⟩; have h9 := hw6.symm; clear hw6; subst h9))
          go_ret
          exact ⟨rfl, HX1.out.trans (Below.trans (Below.trans HX.out (HP.out ▸ hb4)) (HP.out ▸ hb5))⟩
end Go.Proofs.Ytbeoihjfjkbfhaa
