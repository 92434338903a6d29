/-
  RelayOnce: each question that was accepted is given out at most once. Nothing is asked.
-/
import Derived.Test.YtbeoihjfjkbfhaaOnP
namespace Go.Proofs.Ytbeoihjfjkbfhaa
set_option linter.unusedVariables false
set_option linter.unusedSimpArgs false
open Go.RowKit
set_option maxRecDepth 100000 in
set_option maxHeartbeats 16000000 in
theorem once_walk (v : Value) (ls : List (List Int)) (x : Int) (hx : 0 ≤ x ∧ x < 256) (w : World) (hl : RN 4 w v ls) :
    Calls Try.prog 6 #[v, .int .u8 x] w fun e w' => e = .returned (.bool true) ∧ Ext w w' := by
  obtain ⟨base, cp, rfl, hlen⟩ := hl.form
  obtain ⟨need, hneed⟩ : ∃ need, need = x % 4 + 1 := ⟨_, rfl⟩
  have n1 : 1 ≤ need := by omega
  have n2 : need ≤ 4 := by omega
  go_enter Try.func6, Try.ntmps6
  go_upto_region 4 with (first
    | (go_at_call 11; (with_reducible refine (sanity_any _).mono ?_); rintro e w1 ⟨rfl, hx1⟩)
    | (go_at_call 12; refine (new_x _ 10 _ (okI_small (by omega)) (okI_small (by decide))).mono ?_; rintro e w2 ⟨rfl, hr2, hx2⟩))
  rw [← hneed] at hr2 ⊢
  clear hneed
  have HX1 := Lib.hid hx1; have HX2 := Lib.hid hx2; have HR2 := Lib.hid hr2; have HL1 := Lib.hid (hl.ext hx1); have HLEN := Lib.hid hlen
  clear hx1 hx2 hr2 hl hlen
  obtain ⟨p, hp⟩ : ∃ p, p = w1.heap.size := ⟨_, rfl⟩
  rw [← hp]
  have HP := Lib.hid hp
  clear hp
  go_wp2_with (fail)
  go_loopw [8, 9, 10, 11] (fun ac gv tm k wr => ∃ (acc giv i : Nat) (t : Int) (r : Rl), k = .int .i64 i ∧ ac = .int .i64 acc ∧ gv = .int .i64 giv ∧ tm = .int .i64 t ∧ i ≤ 30 ∧ i ≤ ls.length ∧ acc ≤ i ∧ giv ≤ i ∧ 0 ≤ t ∧ t ≤ 25 * i ∧ Hid (OI need r acc giv) ∧ Hid (RX p wr p r) ∧ Hid (Ext w1 wr)) (fun _ _ _ k _ => 30 - (iof k).toNat)
  case atStart => exact ⟨0, 0, 0, 0, _, rfl, rfl, rfl, rfl, by omega, by omega, by omega, by omega, by omega, by omega, Lib.hid ⟨rfl, rfl, rfl⟩, Lib.hid (HP.out ▸ HR2.out), HX2⟩
  case round =>
    obtain ⟨acc, giv, i, t, r, rfl, rfl, rfl, rfl, hi, hil, ha, hg, t0, t1, HO, HRX, HX⟩ := hrel
    by_cases hi2 : i < ls.length ∧ i < 30
    · obtain ⟨hi3, hi4⟩ := hi2
      obtain ⟨b, off, q0, q1, q2, q3, rfl, bl0, k0, k1, k2, k3, o0, o1, o2, o3, -⟩ := act_at HL1.out i hi3
      have HK0 := Lib.hid k0; have HBL := Lib.hid bl0
      have bl : b < wr.heap.size := Nat.lt_of_lt_of_le bl0 HX.out.size
      have c0 := (HX.out.cells.1 _ _ bl0).trans k0
      have c1 := (HX.out.cells.1 _ _ bl0).trans k1
      have c2 := (HX.out.cells.1 _ _ bl0).trans k2
      have c3 := (HX.out.cells.1 _ _ bl0).trans k3
      clear k0 k1 k2 k3 bl0
      have hlc : (i : Int) < (ls.length : Int) := by omega
      have hi20 : (i : Int) < 30 := by omega
      obtain ⟨s, hs⟩ : ∃ s, s = q2 % 25 := ⟨_, rfl⟩
      have s0 : 0 ≤ s := by omega
      have s1 : s < 25 := by omega
      have HM2 := Lib.hid (fun w => mod_x q2 25 (by decide) (by decide) o2 w)
      rw [← hs] at HM2
      clear hs
      obtain ⟨m, hm⟩ : ∃ m, m = q1 % 6 := ⟨_, rfl⟩
      have m0 : 0 ≤ m := by omega
      have m1 : m < 6 := by omega
      have HM1 := Lib.hid (fun w => mod_x q1 6 (by decide) (by decide) o1 w)
      rw [← hm] at HM1
      clear hm
      have HT := Lib.hid (fun w => text_any q3 w o3)
      go_upto_region 13 with (go_at_call 24; refine (HM2.out _).mono ?_; rintro e w3 ⟨rfl, hx3⟩)
      obtain ⟨T, hT⟩ : ∃ T, T = t + s := ⟨_, rfl⟩
      rw [← hT]
      have T0 : 0 ≤ T := by omega
      have T1 : T ≤ 25 * ((i : Int) + 1) := by omega
      have d0 := (hx3.cells.1 _ _ bl).trans c0
      have d1 := (hx3.cells.1 _ _ bl).trans c1
      have d3 := (hx3.cells.1 _ _ bl).trans c3
      have bl3 : b < w3.heap.size := Nat.lt_of_lt_of_le bl hx3.size
      have HX3 := Lib.hid (HX.out.trans hx3)
      have HR3 := Lib.hid (HRX.out.ext hx3)
      clear c0 c1 c2 c3 bl hx3 hT t0 t1 s0 s1 HX HRX
      refine Rr.wp_region [(0, .y), (1, .y), (2, .y), (3, .y), (4, .y), (5, .y), (6, .y), (7, .y), (8, .y), (9, .y), (10, .y), (11, .y), (12, .y), (13, .y)] (fun _ => (.cells #[] 29, Rg.ptr)) (by kernel_rfl) (by kernel_rfl) ?_
      (refine Rr.wr_y (by simp only [List.getElem?_toArray, List.getElem?_cons_succ, List.getElem?_cons_zero]; rfl) (by rfl) ?_
       apply Exists.intro
       refine ⟨fun wz hw _ => ?_, ?_⟩
       · have hcz := hw.cells.1
         go_simp
         (with_reducible exact Rg.up_value)
       simp only [Act.put, List.setIfInBounds_toArray, List.set_cons_zero, List.set_cons_succ])
      (refine Rr.wr_y (by simp only [List.getElem?_toArray, List.getElem?_cons_succ, List.getElem?_cons_zero]; rfl) (by rfl) ?_
       apply Exists.intro
       refine ⟨fun wz hw _ => ?_, ?_⟩
       · have hcz := hw.cells.1
         go_simp
         (with_reducible exact Rg.up_value)
       simp only [Act.put, List.setIfInBounds_toArray, List.set_cons_zero, List.set_cons_succ])
      (refine Rr.wr_y (by simp only [List.getElem?_toArray, List.getElem?_cons_succ, List.getElem?_cons_zero]; rfl) (by rfl) ?_
       apply Exists.intro
       refine ⟨fun wz hw _ => ?_, ?_⟩
       · have hcz := hw.cells.1
         go_simp
         (with_reducible exact Rg.up_value)
       simp only [Act.put, List.setIfInBounds_toArray, List.set_cons_zero, List.set_cons_succ])
      (refine Rr.wr_y (by simp only [List.getElem?_toArray, List.getElem?_cons_succ, List.getElem?_cons_zero]; rfl) (by rfl) ?_
       apply Exists.intro
       refine ⟨fun wz hw _ => ?_, ?_⟩
       · have hcz := hw.cells.1
         go_simp
         (with_reducible exact Rg.up_value)
       simp only [Act.put, List.setIfInBounds_toArray, List.set_cons_zero, List.set_cons_succ])
      (refine Rr.wr_y (by simp only [List.getElem?_toArray, List.getElem?_cons_succ, List.getElem?_cons_zero]; rfl) (by rfl) ?_
       apply Exists.intro
       refine ⟨fun wz hw _ => ?_, ?_⟩
       · have hcz := hw.cells.1
         go_simp
         (with_reducible exact Rg.up_value)
       simp only [Act.put, List.setIfInBounds_toArray, List.set_cons_zero, List.set_cons_succ])
      (refine Rr.wr_y (by simp only [List.getElem?_toArray, List.getElem?_cons_succ, List.getElem?_cons_zero]; rfl) (by rfl) ?_
       apply Exists.intro
       refine ⟨fun wz hw _ => ?_, ?_⟩
       · have hcz := hw.cells.1
         go_simp
         (with_reducible exact Rg.up_value)
       simp only [Act.put, List.setIfInBounds_toArray, List.set_cons_zero, List.set_cons_succ])
      (refine Rr.wr_y (by simp only [List.getElem?_toArray, List.getElem?_cons_succ, List.getElem?_cons_zero]; rfl) (by rfl) ?_
       apply Exists.intro
       refine ⟨fun wz hw _ => ?_, ?_⟩
       · have hcz := hw.cells.1
         go_simp
         apply Rg.up_enter
         (with_reducible refine (HM1.out _).mono ?_)
         rintro e w3 ⟨rfl, hb3⟩
         exact ⟨rfl, hb3⟩
       simp only [Act.put, List.setIfInBounds_toArray, List.set_cons_zero, List.set_cons_succ])
      (refine Rr.wr_y (by simp only [List.getElem?_toArray, List.getElem?_cons_succ, List.getElem?_cons_zero]; rfl) (by rfl) ?_
       apply Exists.intro
       refine ⟨fun wz hw _ => ?_, ?_⟩
       · have hcz := hw.cells.1
         go_simp
         (with_reducible exact Rg.up_value)
       simp only [Act.put, List.setIfInBounds_toArray, List.set_cons_zero, List.set_cons_succ])
      (refine Rr.wr_y (by simp only [List.getElem?_toArray, List.getElem?_cons_succ, List.getElem?_cons_zero]; rfl) (by rfl) ?_
       apply Exists.intro
       refine ⟨fun wz hw _ => ?_, ?_⟩
       · have hcz := hw.cells.1
         go_simp
         (with_reducible exact Rg.up_value)
       simp only [Act.put, List.setIfInBounds_toArray, List.set_cons_zero, List.set_cons_succ])
      (refine Rr.wr_y (by simp only [List.getElem?_toArray, List.getElem?_cons_succ, List.getElem?_cons_zero]; rfl) (by rfl) ?_
       apply Exists.intro
       refine ⟨fun wz hw _ => ?_, ?_⟩
       · have hcz := hw.cells.1
         go_simp
         (with_reducible exact Rg.up_value)
       simp only [Act.put, List.setIfInBounds_toArray, List.set_cons_zero, List.set_cons_succ])
      (refine Rr.wr_y (by simp only [List.getElem?_toArray, List.getElem?_cons_succ, List.getElem?_cons_zero]; rfl) (by rfl) ?_
       apply Exists.intro
       refine ⟨fun wz hw _ => ?_, ?_⟩
       · have hcz := hw.cells.1
         go_simp
         (with_reducible exact Rg.up_value)
       simp only [Act.put, List.setIfInBounds_toArray, List.set_cons_zero, List.set_cons_succ])
      (refine Rr.wr_y (by simp only [List.getElem?_toArray, List.getElem?_cons_succ, List.getElem?_cons_zero]; rfl) (by rfl) ?_
       apply Exists.intro
       refine ⟨fun wz hw _ => ?_, ?_⟩
       · have hcz := hw.cells.1
         go_simp
         (with_reducible exact Rg.up_value)
       simp only [Act.put, List.setIfInBounds_toArray, List.set_cons_zero, List.set_cons_succ])
      (refine Rr.wr_y (by simp only [List.getElem?_toArray, List.getElem?_cons_succ, List.getElem?_cons_zero]; rfl) (by rfl) ?_
       apply Exists.intro
       refine ⟨fun wz hw _ => ?_, ?_⟩
       · have hcz := hw.cells.1
         go_simp
         (with_reducible exact Rg.up_value)
       simp only [Act.put, List.setIfInBounds_toArray, List.set_cons_zero, List.set_cons_succ])
      (refine Rr.wr_y (by simp only [List.getElem?_toArray, List.getElem?_cons_succ, List.getElem?_cons_zero]; rfl) (by rfl) ?_
       apply Exists.intro
       refine ⟨fun wz hw _ => ?_, ?_⟩
       · have hcz := hw.cells.1
         go_simp
         apply Rg.up_enter
         (with_reducible refine (HT.out _).mono ?_)
         rintro e w3 ⟨rfl, hb3⟩
         exact ⟨rfl, hb3⟩
       simp only [Act.put, List.setIfInBounds_toArray, List.set_cons_zero, List.set_cons_succ])
      refine Rr.wr_nil ?_
      intro wy hy hh
      clear hh
      simp only [List.length_cons, List.length_nil, List.drop_succ_cons, List.drop_zero, Nat.reduceAdd]
      have hAsk := ask_x (HR3.out.ext hy) ⟨m, txtF q3⟩ T (okI_small (by simp only; omega)) (okI_small (by omega)) _ _ rfl rfl
      have hO1 := HO.out.ask ⟨m, txtF q3⟩ T
      generalize askR r ⟨m, txtF q3⟩ T = r1 at *
      generalize askE r ⟨m, txtF q3⟩ T = er at *
      have HA := Lib.hid hAsk; have HXY := Lib.hid (HX3.out.trans hy)
      clear hAsk hy d0 d1 d3 bl3 HM1 HM2 HT
      obtain ⟨acc1, hacc1⟩ : ∃ acc1 : Nat, acc1 = if er = 0 then acc + 1 else acc := ⟨_, rfl⟩
      rw [← hacc1] at hO1
      have ha1 : acc1 ≤ i + 1 := by rw [hacc1]; split <;> omega
      have HO1 := Lib.hid hO1
      clear hO1
      by_cases her : er = 0
      · rw [if_pos her] at hacc1
        subst hacc1
        have her2 : (er == 0) = true := by simpa using her
        go_upto_region 15 with (go_at_call 20; (with_reducible refine HA.out.mono ?_); rintro e w4 ⟨rfl, hr4, hb4⟩)
        have HR4 := Lib.hid hr4; have HX4 : Hid (Ext w1 w4) := Lib.hid (Below.trans HXY.out (HP.out ▸ hb4))
        have e0 := (HX4.out.cells.1 _ _ HBL.out).trans HK0.out
        have ble : b < w4.heap.size := Nat.lt_of_lt_of_le HBL.out HX4.out.size
        clear hr4 hb4 HXY HA
        by_cases hk3 : q0.tmod 3 = 0
        · rcases tick_cases HO1.out T with ⟨hn1, hO2⟩ | ⟨ts, hn1, hn2, hn3, hn4, hO2⟩
          · have HTK := Lib.hid (tick_x HR4.out T (okI_small (by omega)) none _ hn1 rfl)
            have HO2 := Lib.hid hO2
            clear hn1 hO2
            generalize (tickF r1 T).2 = r2 at *
            go_upto_region 17 with (go_at_call 16; (with_reducible refine HTK.out.mono ?_); rintro e w5 ⟨v5, rfl, hv5, hr5, hb5⟩; have h9 : v5 = .slice none 0 0 := hv5; clear hv5; subst h9)
            have HR5 := Lib.hid hr5; have HX5 : Hid (Ext w1 w5) := Lib.hid (Below.trans HX4.out (HP.out ▸ hb5))
            clear hr5 hb5 e0 ble
            go_wp2_with (fail)
            go_loopw [9, 13] (fun gv kv wq => gv = .int .i64 giv ∧ kv = .int .i64 0 ∧ w5 = wq) (fun _ _ _ => 0)
            case atStart => exact ⟨rfl, rfl, rfl⟩
            case round =>
              obtain ⟨rfl, rfl, rfl⟩ := hrel
              go_wp2_with (fail)
              exact ⟨⟨(acc + 1), giv, i + 1, T, r2, by simp, rfl, rfl, rfl, by omega, by omega, by omega, by omega, by omega, by omega, HO2, HR5, HX5⟩, by simp [iof]; omega⟩
          · have HTK := Lib.hid (tick_x HR4.out T (okI_small (by omega)) (some ts) _ hn1 rfl)
            have HO2 := Lib.hid hO2
            clear hn1 hO2
            generalize (tickF r1 T).2 = r2 at *
            go_upto_region 17 with (go_at_call 16; (with_reducible refine HTK.out.mono ?_); rintro e w5 ⟨v5, rfl, hv5, hr5, hb5⟩; obtain ⟨g, ga, gc, rfl, gl, gcell⟩ := batch_form hv5; clear hv5)
            have HR5 := Lib.hid hr5; have HX5 : Hid (Ext w1 w5) := Lib.hid (Below.trans HX4.out (HP.out ▸ hb5))
            clear hr5 hb5 e0 ble HTK
            generalize ts.length = N at *
            go_wp2_with (fail)
            go_loopw [9, 13] (fun gv kv wq => ∃ j : Nat, j ≤ 1 ∧ kv = .int .i64 j ∧ gv = .int .i64 ((giv + j * N : Nat) : Int) ∧ w5 = wq) (fun _ kv _ => 1 - (iof kv).toNat)
            case atStart => exact ⟨0, by omega, rfl, by simp, rfl⟩
            case round =>
              obtain ⟨j, hj, rfl, rfl, rfl⟩ := hrel
              by_cases hj1 : j = 1
              · subst hj1
                rw [Nat.one_mul]
                go_wp2_with (fail)
                exact ⟨⟨(acc + 1), giv + N, i + 1, T, r2, by simp, rfl, by simp, rfl, by omega, by omega, by omega, by omega, by omega, by omega, HO2, HR5, HX5⟩, by simp [iof]; omega⟩
              · obtain rfl : j = 0 := by omega
                have hnn : ¬ (N : Int) < need := by omega
                rw [Nat.zero_mul, Nat.add_zero]
                go_wp2_with (fail)
                exact ⟨⟨1, by omega, by simp, by simp, by simp⟩, by simp [iof]⟩
        · have HX5 := HX4; have HR5 := HR4
          go_wp2_with (fail)
          exact ⟨⟨(acc + 1), giv, i + 1, T, r1, by simp, rfl, rfl, rfl, by omega, by omega, by omega, by omega, by omega, by omega, HO1, HR5, HX5⟩, by simp [iof]; omega⟩
      · rw [if_neg her] at hacc1
        subst hacc1
        have her2 : (er == 0) = false := by simpa using her
        go_upto_region 15 with (go_at_call 20; (with_reducible refine HA.out.mono ?_); rintro e w4 ⟨rfl, hr4, hb4⟩)
        have HR4 := Lib.hid hr4; have HX4 : Hid (Ext w1 w4) := Lib.hid (Below.trans HXY.out (HP.out ▸ hb4))
        have e0 := (HX4.out.cells.1 _ _ HBL.out).trans HK0.out
        have ble : b < w4.heap.size := Nat.lt_of_lt_of_le HBL.out HX4.out.size
        clear hr4 hb4 HXY HA
        by_cases hk3 : q0.tmod 3 = 0
        · rcases tick_cases HO1.out T with ⟨hn1, hO2⟩ | ⟨ts, hn1, hn2, hn3, hn4, hO2⟩
          · have HTK := Lib.hid (tick_x HR4.out T (okI_small (by omega)) none _ hn1 rfl)
            have HO2 := Lib.hid hO2
            clear hn1 hO2
            generalize (tickF r1 T).2 = r2 at *
            go_upto_region 17 with (go_at_call 16; (with_reducible refine HTK.out.mono ?_); rintro e w5 ⟨v5, rfl, hv5, hr5, hb5⟩; have h9 : v5 = .slice none 0 0 := hv5; clear hv5; subst h9)
            have HR5 := Lib.hid hr5; have HX5 : Hid (Ext w1 w5) := Lib.hid (Below.trans HX4.out (HP.out ▸ hb5))
            clear hr5 hb5 e0 ble
            go_wp2_with (fail)
            go_loopw [9, 13] (fun gv kv wq => gv = .int .i64 giv ∧ kv = .int .i64 0 ∧ w5 = wq) (fun _ _ _ => 0)
            case atStart => exact ⟨rfl, rfl, rfl⟩
            case round =>
              obtain ⟨rfl, rfl, rfl⟩ := hrel
              go_wp2_with (fail)
              exact ⟨⟨acc1, giv, i + 1, T, r2, by simp, rfl, rfl, rfl, by omega, by omega, by omega, by omega, by omega, by omega, HO2, HR5, HX5⟩, by simp [iof]; omega⟩
          · have HTK := Lib.hid (tick_x HR4.out T (okI_small (by omega)) (some ts) _ hn1 rfl)
            have HO2 := Lib.hid hO2
            clear hn1 hO2
            generalize (tickF r1 T).2 = r2 at *
            go_upto_region 17 with (go_at_call 16; (with_reducible refine HTK.out.mono ?_); rintro e w5 ⟨v5, rfl, hv5, hr5, hb5⟩; obtain ⟨g, ga, gc, rfl, gl, gcell⟩ := batch_form hv5; clear hv5)
            have HR5 := Lib.hid hr5; have HX5 : Hid (Ext w1 w5) := Lib.hid (Below.trans HX4.out (HP.out ▸ hb5))
            clear hr5 hb5 e0 ble HTK
            generalize ts.length = N at *
            go_wp2_with (fail)
            go_loopw [9, 13] (fun gv kv wq => ∃ j : Nat, j ≤ 1 ∧ kv = .int .i64 j ∧ gv = .int .i64 ((giv + j * N : Nat) : Int) ∧ w5 = wq) (fun _ kv _ => 1 - (iof kv).toNat)
            case atStart => exact ⟨0, by omega, rfl, by simp, rfl⟩
            case round =>
              obtain ⟨j, hj, rfl, rfl, rfl⟩ := hrel
              by_cases hj1 : j = 1
              · subst hj1
                rw [Nat.one_mul]
                go_wp2_with (fail)
                exact ⟨⟨acc1, giv + N, i + 1, T, r2, by simp, rfl, by simp, rfl, by omega, by omega, by omega, by omega, by omega, by omega, HO2, HR5, HX5⟩, by simp [iof]; omega⟩
              · obtain rfl : j = 0 := by omega
                have hnn : ¬ (N : Int) < need := by omega
                rw [Nat.zero_mul, Nat.add_zero]
                go_wp2_with (fail)
                exact ⟨⟨1, by omega, by simp, by simp, by simp⟩, by simp [iof]⟩
        · have HX5 := HX4; have HR5 := HR4
          go_wp2_with (fail)
          exact ⟨⟨acc1, giv, i + 1, T, r1, by simp, rfl, rfl, rfl, by omega, by omega, by omega, by omega, by omega, by omega, HO1, HR5, HX5⟩, by simp [iof]; omega⟩
    · have hcnd : i < 30 → ¬ i < ls.length := fun h1 h2 => hi2 ⟨h2, h1⟩
      have HWT := Lib.hid (waiting_x HRX.out r.l.length rfl)
      have hsum := HO.out.sum
      have hsum2 : (acc : Int) = (giv : Int) + (r.l.length : Nat) := by omega
      have hcl := close_cases HO.out
      have HCL := Lib.hid (close_x HRX.out (closeF r).1 (closeF r).2 rfl rfl)
      generalize r.l.length = L at *
      have HL0 := Lib.hid hcl.1
      have hcl2 := hcl.2
      clear hcl
      generalize (closeF r).2 = r2 at *
      generalize (closeF r).1 = o2 at *
      have HW2 := Lib.hid (fun w' (h : RX p w' p r2) => waiting_x h 0 (by rw [HL0.out]; rfl))
      obtain ⟨bb, hb1, hb2⟩ : ∃ bb : Bool, bb = decide (i < 30) ∧ (bb = true → ¬ (i : Int) < (ls.length : Int)) := ⟨_, rfl, fun h => by have := hcnd (of_decide_eq_true h); omega⟩
      by_cases hi4 : i < 30
      · have hi5 : ¬ (i : Int) < (ls.length : Int) := by have := hcnd hi4; omega
        clear hcnd hi2 hb1 hb2
        rcases hcl2 with rfl | ⟨ts, rfl, hts1, hts2⟩
        · go_wp2_with (first
            | (go_at_call 22; (with_reducible refine HWT.out.mono ?_); rintro e w6 ⟨rfl, hw6⟩; have h9 := hw6.symm; clear hw6; subst h9; clear HWT)
            | (go_at_call 18; (with_reducible refine HCL.out.mono ?_); rintro e w7 ⟨v7, rfl, hv7, hr7, hb7⟩; have h9 : v7 = .slice none 0 0 := hv7; clear hv7; subst h9)
            | (go_at_call 22; (with_reducible refine (HW2.out _ hr7).mono ?_); rintro e w8 ⟨rfl, hw8⟩; have h9 := hw8.symm; clear hw8; subst h9))
          go_ret
          exact ⟨rfl, HX1.out.trans (Below.trans HX.out (HP.out ▸ hb7))⟩
        · have hts3 : (giv : Int) + (ts.length : Int) ≤ (acc : Int) := by omega
          go_wp2_with (first
            | (go_at_call 22; (with_reducible refine HWT.out.mono ?_); rintro e w6 ⟨rfl, hw6⟩; have h9 := hw6.symm; clear hw6; subst h9; clear HWT)
            | (go_at_call 18; (with_reducible refine HCL.out.mono ?_); rintro e w7 ⟨v7, rfl, hv7, hr7, hb7⟩; obtain ⟨g, ga, gc, rfl, gl, gcell⟩ := batch_form hv7; clear hv7)
            | (go_at_call 22; (with_reducible refine (HW2.out _ hr7).mono ?_); rintro e w8 ⟨rfl, hw8⟩; have h9 := hw8.symm; clear hw8; subst h9))
          go_ret
          exact ⟨by show Ending.returned (.bool (decide (ts.length ≤ L))) = _; rw [decide_eq_true (by omega)], HX1.out.trans (Below.trans HX.out (HP.out ▸ hb7))⟩
      · have hi5 : ¬ (i : Int) < 30 := by omega
        have hi30 : i = 30 := by omega
        subst hi30
        clear hcnd hi2 hb1 hb2
        by_cases hi6 : (30 : Int) < (ls.length : Int)
        · skip
          rcases hcl2 with rfl | ⟨ts, rfl, hts1, hts2⟩
          · go_wp2_with (first
              | (go_at_call 22; (with_reducible refine HWT.out.mono ?_); rintro e w6 ⟨rfl, hw6⟩; have h9 := hw6.symm; clear hw6; subst h9; clear HWT)
              | (go_at_call 18; (with_reducible refine HCL.out.mono ?_); rintro e w7 ⟨v7, rfl, hv7, hr7, hb7⟩; have h9 : v7 = .slice none 0 0 := hv7; clear hv7; subst h9)
              | (go_at_call 22; (with_reducible refine (HW2.out _ hr7).mono ?_); rintro e w8 ⟨rfl, hw8⟩; have h9 := hw8.symm; clear hw8; subst h9))
            go_ret
            exact ⟨rfl, HX1.out.trans (Below.trans HX.out (HP.out ▸ hb7))⟩
          · have hts3 : (giv : Int) + (ts.length : Int) ≤ (acc : Int) := by omega
            go_wp2_with (first
              | (go_at_call 22; (with_reducible refine HWT.out.mono ?_); rintro e w6 ⟨rfl, hw6⟩; have h9 := hw6.symm; clear hw6; subst h9; clear HWT)
              | (go_at_call 18; (with_reducible refine HCL.out.mono ?_); rintro e w7 ⟨v7, rfl, hv7, hr7, hb7⟩; obtain ⟨g, ga, gc, rfl, gl, gcell⟩ := batch_form hv7; clear hv7)
              | (go_at_call 22; (with_reducible refine (HW2.out _ hr7).mono ?_); rintro e w8 ⟨rfl, hw8⟩; have h9 := hw8.symm; clear hw8; subst h9))
            go_ret
            exact ⟨by show Ending.returned (.bool (decide (ts.length ≤ L))) = _; rw [decide_eq_true (by omega)], HX1.out.trans (Below.trans HX.out (HP.out ▸ hb7))⟩
        · skip
          rcases hcl2 with rfl | ⟨ts, rfl, hts1, hts2⟩
          · go_wp2_with (first
              | (go_at_call 22; (with_reducible refine HWT.out.mono ?_); rintro e w6 ⟨rfl, hw6⟩; have h9 := hw6.symm; clear hw6; subst h9; clear HWT)
              | (go_at_call 18; (with_reducible refine HCL.out.mono ?_); rintro e w7 ⟨v7, rfl, hv7, hr7, hb7⟩; have h9 : v7 = .slice none 0 0 := hv7; clear hv7; subst h9)
              | (go_at_call 22; (with_reducible refine (HW2.out _ hr7).mono ?_); rintro e w8 ⟨rfl, hw8⟩; have h9 := hw8.symm; clear hw8; subst h9))
            go_ret
            exact ⟨rfl, HX1.out.trans (Below.trans HX.out (HP.out ▸ hb7))⟩
          · have hts3 : (giv : Int) + (ts.length : Int) ≤ (acc : Int) := by omega
            go_wp2_with (first
              | (go_at_call 22; (with_reducible refine HWT.out.mono ?_); rintro e w6 ⟨rfl, hw6⟩; have h9 := hw6.symm; clear hw6; subst h9; clear HWT)
              | (go_at_call 18; (with_reducible refine HCL.out.mono ?_); rintro e w7 ⟨v7, rfl, hv7, hr7, hb7⟩; obtain ⟨g, ga, gc, rfl, gl, gcell⟩ := batch_form hv7; clear hv7)
              | (go_at_call 22; (with_reducible refine (HW2.out _ hr7).mono ?_); rintro e w8 ⟨rfl, hw8⟩; have h9 := hw8.symm; clear hw8; subst h9))
            go_ret
            exact ⟨by show Ending.returned (.bool (decide (ts.length ≤ L))) = _; rw [decide_eq_true (by omega)], HX1.out.trans (Below.trans HX.out (HP.out ▸ hb7))⟩
end Go.Proofs.Ytbeoihjfjkbfhaa
