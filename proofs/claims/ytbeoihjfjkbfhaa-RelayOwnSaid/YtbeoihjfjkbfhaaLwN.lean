/-
  RelayOwn: what is changed in batches does not change the relay. Nothing is asked.
-/
import Derived.Test.YtbeoihjfjkbfhaaReN
namespace Go.Proofs.Ytbeoihjfjkbfhaa
set_option linter.unusedVariables false
set_option linter.unusedSimpArgs false
open Go.RowKit
/-- A row of strings whose cells may be written; g is its block. -/
theorem batch_row {n : Nat} {w : World} {v : Value} {ts : List ByteArray} (h : BatR n w v (some ts)) (h1 : 0 < ts.length) :
    ∃ g gb c cur, v = .slice (some ⟨g, 0, none⟩) 1 1 ∧ n ≤ g ∧ n ≤ gb ∧ g ≠ gb ∧ w.heap[g]? = some (.cells #[.slice (some ⟨gb, 0, none⟩) ts.length c] 38) ∧ w.heap[gb]? = some (.cells cur 9) ∧ ts.length ≤ cur.size := by
  obtain ⟨g, u, e1, e2, e3, e4⟩ := h
  rcases e4.2 with ⟨-, e5⟩ | ⟨gb, c, cur, rfl, e5, e6, e7, e8, e9, e10⟩
  · omega
  · refine ⟨g, gb, c, cur, e1, e2, e5, ?_, e3, e6, by omega⟩
    rintro rfl
    rw [e3] at e6
    cases e6
set_option maxRecDepth 100000 in
set_option maxHeartbeats 16000000 in
theorem own_walk (v : Value) (ls : List (List Int)) (w : World) (hl : RN 4 w v ls) :
    Calls Try.prog 10 #[v] w fun e w' => e = .returned (.bool true) ∧ Ext w w' := by
  obtain ⟨base, cp, rfl, hlen⟩ := hl.form
  go_enter Try.func10, Try.ntmps10
  go_upto_region 3 with (first
    | (go_at_call 11; (with_reducible refine (sanity_any _).mono ?_); rintro e w1 ⟨rfl, hx1⟩)
    | (go_at_call 12; refine (new_x 1 5 _ (okI_small (by decide)) (okI_small (by decide))).mono ?_; rintro e w2 ⟨rfl, hr2, hx2⟩))
  have HX1 := Lib.hid hx1; have HX2 := Lib.hid hx2; have HR2 := Lib.hid hr2; have HL1 := Lib.hid (hl.ext hx1); have HLEN := Lib.hid hlen
  clear hx1 hx2 hr2 hl hlen
  obtain ⟨p1, hp⟩ : ∃ p, p = w1.heap.size := ⟨_, rfl⟩
  rw [← hp]
  have HP := Lib.hid hp
  clear hp
  go_upto_region 4 with (go_at_call 12; refine (new_x 1 5 _ (okI_small (by decide)) (okI_small (by decide))).mono ?_; rintro e w3 ⟨rfl, hr3, hx3⟩)
  have hR2 := R2.both_ (HP.out ▸ HR2.out : RX p1 w2 p1 _) hr3 hx3
  have HX3 : Hid (Ext w1 w3) := Lib.hid (HX2.out.trans hx3)
  obtain ⟨p2, hp2⟩ : ∃ p, p = w2.heap.size := ⟨_, rfl⟩
  rw [← hp2] at hR2 ⊢
  have HRR := Lib.hid hR2
  clear hp2 hr3 hx3 hR2 HR2 HX2
  go_wp2_with (fail)
  go_loopw [6, 7] (fun tm k wr => ∃ (i : Nat) (t : Int) (r : Rl), k = .int .i64 i ∧ tm = .int .i64 t ∧ i ≤ 30 ∧ i ≤ ls.length ∧ 0 ≤ t ∧ t ≤ 9 * i ∧ Hid (R2 p1 wr p1 p2 r r) ∧ Hid (Ext w1 wr)) (fun _ k _ => 30 - (iof k).toNat)
  case atStart => exact ⟨0, 0, _, rfl, rfl, by omega, by omega, by omega, by omega, HRR, HX3⟩
  case round =>
    obtain ⟨i, t, r, rfl, rfl, hi, hil, t0, t1, HRX, HX⟩ := hrel
    by_cases hi2 : i < ls.length ∧ i < 30
    · obtain ⟨hi3, hi4⟩ := hi2
      obtain ⟨b, off, q0, q1, q2, q3, rfl, bl0, k0, k1, k2, k3, o0, o1, o2, o3, -⟩ := act_at HL1.out i hi3
      have bl : b < wr.heap.size := Nat.lt_of_lt_of_le bl0 HX.out.size
      have c1 := (HX.out.cells.1 _ _ bl0).trans k1
      have c2 := (HX.out.cells.1 _ _ bl0).trans k2
      have c3 := (HX.out.cells.1 _ _ bl0).trans k3
      have HK1 := Lib.hid k1; have HK3 := Lib.hid k3; have HBL := Lib.hid bl0
      clear k0 k1 k2 k3 bl0
      have hlc : (i : Int) < (ls.length : Int) := by omega
      have hi20 : (i : Int) < 30 := by omega
      obtain ⟨s, hs⟩ : ∃ s, s = q2 % 9 := ⟨_, rfl⟩
      have s0 : 0 ≤ s := by omega
      have s1 : s < 9 := by omega
      have HM2 := Lib.hid (fun w => mod_x q2 9 (by decide) (by decide) o2 w)
      rw [← hs] at HM2
      clear hs
      have HT := Lib.hid (fun w => text_any q3 w o3)
      go_upto_region 11 with (go_at_call 24; refine (HM2.out _).mono ?_; rintro e w3 ⟨rfl, hx3⟩)
      obtain ⟨T, hT⟩ : ∃ T, T = t + s := ⟨_, rfl⟩
      rw [← hT]
      have T0 : 0 ≤ T := by omega
      have T1 : T ≤ 9 * ((i : Int) + 1) := by omega
      have d1 := (hx3.cells.1 _ _ bl).trans c1
      have d3 := (hx3.cells.1 _ _ bl).trans c3
      have bl3 : b < w3.heap.size := Nat.lt_of_lt_of_le bl hx3.size
      have HX3 := Lib.hid (HX.out.trans hx3)
      have HR3 := Lib.hid (HRX.out.ext hx3)
      clear c1 c2 c3 bl hx3 hT t0 t1 s0 s1 HX HRX HM2
      refine Rr.wp_region [(0, .y), (1, .y), (2, .y), (3, .y), (4, .y), (5, .y), (6, .y), (7, .y), (8, .y), (9, .y), (10, .y), (11, .y), (12, .y)] (fun _ => (.cells #[] 29, Rg.ptr)) (by kernel_rfl) (by kernel_rfl) ?_
      (refine Rr.wr_y (by simp only [List.getElem?_toArray, List.getElem?_cons_succ, List.getElem?_cons_zero]; rfl) (by rfl) ?_
       apply Exists.intro
       refine ⟨fun wz hw _ => ?_, ?_⟩
       · have hcz := hw.cells.1
         go_simp
         (with_reducible exact Rg.up_value)
       simp only [Act.put, List.setIfInBounds_toArray, List.set_cons_zero, List.set_cons_succ])
      (refine Rr.wr_y (by simp only [List.getElem?_toArray, List.getElem?_cons_succ, List.getElem?_cons_zero]; rfl) (by rfl) ?_
       apply Exists.intro
       refine ⟨fun wz hw _ => ?_, ?_⟩
       · have hcz := hw.cells.1
         go_simp
         (with_reducible exact Rg.up_value)
       simp only [Act.put, List.setIfInBounds_toArray, List.set_cons_zero, List.set_cons_succ])
      (refine Rr.wr_y (by simp only [List.getElem?_toArray, List.getElem?_cons_succ, List.getElem?_cons_zero]; rfl) (by rfl) ?_
       apply Exists.intro
       refine ⟨fun wz hw _ => ?_, ?_⟩
       · have hcz := hw.cells.1
         go_simp
         (with_reducible exact Rg.up_value)
       simp only [Act.put, List.setIfInBounds_toArray, List.set_cons_zero, List.set_cons_succ])
      (refine Rr.wr_y (by simp only [List.getElem?_toArray, List.getElem?_cons_succ, List.getElem?_cons_zero]; rfl) (by rfl) ?_
       apply Exists.intro
       refine ⟨fun wz hw _ => ?_, ?_⟩
       · have hcz := hw.cells.1
         go_simp
         (with_reducible exact Rg.up_value)
       simp only [Act.put, List.setIfInBounds_toArray, List.set_cons_zero, List.set_cons_succ])
      (refine Rr.wr_y (by simp only [List.getElem?_toArray, List.getElem?_cons_succ, List.getElem?_cons_zero]; rfl) (by rfl) ?_
       apply Exists.intro
       refine ⟨fun wz hw _ => ?_, ?_⟩
       · have hcz := hw.cells.1
         go_simp
         (with_reducible exact Rg.up_value)
       simp only [Act.put, List.setIfInBounds_toArray, List.set_cons_zero, List.set_cons_succ])
      (refine Rr.wr_y (by simp only [List.getElem?_toArray, List.getElem?_cons_succ, List.getElem?_cons_zero]; rfl) (by rfl) ?_
       apply Exists.intro
       refine ⟨fun wz hw _ => ?_, ?_⟩
       · have hcz := hw.cells.1
         go_simp
         (with_reducible exact Rg.up_value)
       simp only [Act.put, List.setIfInBounds_toArray, List.set_cons_zero, List.set_cons_succ])
      (refine Rr.wr_y (by simp only [List.getElem?_toArray, List.getElem?_cons_succ, List.getElem?_cons_zero]; rfl) (by rfl) ?_
       apply Exists.intro
       refine ⟨fun wz hw _ => ?_, ?_⟩
       · have hcz := hw.cells.1
         go_simp
         (with_reducible exact Rg.up_value)
       simp only [Act.put, List.setIfInBounds_toArray, List.set_cons_zero, List.set_cons_succ])
      (refine Rr.wr_y (by simp only [List.getElem?_toArray, List.getElem?_cons_succ, List.getElem?_cons_zero]; rfl) (by rfl) ?_
       apply Exists.intro
       refine ⟨fun wz hw _ => ?_, ?_⟩
       · have hcz := hw.cells.1
         go_simp
         (with_reducible exact Rg.up_value)
       simp only [Act.put, List.setIfInBounds_toArray, List.set_cons_zero, List.set_cons_succ])
      (refine Rr.wr_y (by simp only [List.getElem?_toArray, List.getElem?_cons_succ, List.getElem?_cons_zero]; rfl) (by rfl) ?_
       apply Exists.intro
       refine ⟨fun wz hw _ => ?_, ?_⟩
       · have hcz := hw.cells.1
         go_simp
         (with_reducible exact Rg.up_value)
       simp only [Act.put, List.setIfInBounds_toArray, List.set_cons_zero, List.set_cons_succ])
      (refine Rr.wr_y (by simp only [List.getElem?_toArray, List.getElem?_cons_succ, List.getElem?_cons_zero]; rfl) (by rfl) ?_
       apply Exists.intro
       refine ⟨fun wz hw _ => ?_, ?_⟩
       · have hcz := hw.cells.1
         go_simp
         (with_reducible exact Rg.up_value)
       simp only [Act.put, List.setIfInBounds_toArray, List.set_cons_zero, List.set_cons_succ])
      (refine Rr.wr_y (by simp only [List.getElem?_toArray, List.getElem?_cons_succ, List.getElem?_cons_zero]; rfl) (by rfl) ?_
       apply Exists.intro
       refine ⟨fun wz hw _ => ?_, ?_⟩
       · have hcz := hw.cells.1
         go_simp
         (with_reducible exact Rg.up_value)
       simp only [Act.put, List.setIfInBounds_toArray, List.set_cons_zero, List.set_cons_succ])
      (refine Rr.wr_y (by simp only [List.getElem?_toArray, List.getElem?_cons_succ, List.getElem?_cons_zero]; rfl) (by rfl) ?_
       apply Exists.intro
       refine ⟨fun wz hw _ => ?_, ?_⟩
       · have hcz := hw.cells.1
         go_simp
         (with_reducible exact Rg.up_value)
       simp only [Act.put, List.setIfInBounds_toArray, List.set_cons_zero, List.set_cons_succ])
      (refine Rr.wr_y (by simp only [List.getElem?_toArray, List.getElem?_cons_succ, List.getElem?_cons_zero]; rfl) (by rfl) ?_
       apply Exists.intro
       refine ⟨fun wz hw _ => ?_, ?_⟩
       · have hcz := hw.cells.1
         go_simp
         apply Rg.up_enter
         (with_reducible refine (HT.out _).mono ?_)
         rintro e w3 ⟨rfl, hb3⟩
         exact ⟨rfl, hb3⟩
       simp only [Act.put, List.setIfInBounds_toArray, List.set_cons_zero, List.set_cons_succ])
      refine Rr.wr_nil ?_
      intro wy hy hh
      clear hh
      simp only [List.length_cons, List.length_nil, List.drop_succ_cons, List.drop_zero, Nat.reduceAdd]
      have HA := Lib.hid ((HR3.out.ext hy).ask1 ⟨q1, txtF q3⟩ T o1 (okI_small (by omega)))
      have HXY := Lib.hid (HX3.out.trans hy)
      clear hy d1 d3 bl3
      go_upto_region 12 with (go_at_call 20; (with_reducible refine HA.out.mono ?_); rintro e w4 ⟨rfl, hr4, hb4⟩)
      have HX4 : Hid (Ext w1 w4) := Lib.hid (Below.trans HXY.out (HP.out ▸ hb4))
      have HR4 := Lib.hid hr4.symm
      have d1 := (HX4.out.cells.1 _ _ HBL.out).trans HK1.out
      have d3 := (HX4.out.cells.1 _ _ HBL.out).trans HK3.out
      have bl4 : b < w4.heap.size := Nat.lt_of_lt_of_le HBL.out HX4.out.size
      clear hr4 hb4 HA HXY
      refine Rr.wp_region [(0, .y), (1, .y), (2, .y), (3, .y), (4, .y), (5, .y), (6, .y), (7, .y), (8, .y), (9, .y), (10, .y), (11, .y), (12, .y)] (fun _ => (.cells #[] 29, Rg.ptr)) (by kernel_rfl) (by kernel_rfl) ?_
      (refine Rr.wr_y (by simp only [List.getElem?_toArray, List.getElem?_cons_succ, List.getElem?_cons_zero]; rfl) (by rfl) ?_
       apply Exists.intro
       refine ⟨fun wz hw _ => ?_, ?_⟩
       · have hcz := hw.cells.1
         go_simp
         (with_reducible exact Rg.up_value)
       simp only [Act.put, List.setIfInBounds_toArray, List.set_cons_zero, List.set_cons_succ])
      (refine Rr.wr_y (by simp only [List.getElem?_toArray, List.getElem?_cons_succ, List.getElem?_cons_zero]; rfl) (by rfl) ?_
       apply Exists.intro
       refine ⟨fun wz hw _ => ?_, ?_⟩
       · have hcz := hw.cells.1
         go_simp
         (with_reducible exact Rg.up_value)
       simp only [Act.put, List.setIfInBounds_toArray, List.set_cons_zero, List.set_cons_succ])
      (refine Rr.wr_y (by simp only [List.getElem?_toArray, List.getElem?_cons_succ, List.getElem?_cons_zero]; rfl) (by rfl) ?_
       apply Exists.intro
       refine ⟨fun wz hw _ => ?_, ?_⟩
       · have hcz := hw.cells.1
         go_simp
         (with_reducible exact Rg.up_value)
       simp only [Act.put, List.setIfInBounds_toArray, List.set_cons_zero, List.set_cons_succ])
      (refine Rr.wr_y (by simp only [List.getElem?_toArray, List.getElem?_cons_succ, List.getElem?_cons_zero]; rfl) (by rfl) ?_
       apply Exists.intro
       refine ⟨fun wz hw _ => ?_, ?_⟩
       · have hcz := hw.cells.1
         go_simp
         (with_reducible exact Rg.up_value)
       simp only [Act.put, List.setIfInBounds_toArray, List.set_cons_zero, List.set_cons_succ])
      (refine Rr.wr_y (by simp only [List.getElem?_toArray, List.getElem?_cons_succ, List.getElem?_cons_zero]; rfl) (by rfl) ?_
       apply Exists.intro
       refine ⟨fun wz hw _ => ?_, ?_⟩
       · have hcz := hw.cells.1
         go_simp
         (with_reducible exact Rg.up_value)
       simp only [Act.put, List.setIfInBounds_toArray, List.set_cons_zero, List.set_cons_succ])
      (refine Rr.wr_y (by simp only [List.getElem?_toArray, List.getElem?_cons_succ, List.getElem?_cons_zero]; rfl) (by rfl) ?_
       apply Exists.intro
       refine ⟨fun wz hw _ => ?_, ?_⟩
       · have hcz := hw.cells.1
         go_simp
         (with_reducible exact Rg.up_value)
       simp only [Act.put, List.setIfInBounds_toArray, List.set_cons_zero, List.set_cons_succ])
      (refine Rr.wr_y (by simp only [List.getElem?_toArray, List.getElem?_cons_succ, List.getElem?_cons_zero]; rfl) (by rfl) ?_
       apply Exists.intro
       refine ⟨fun wz hw _ => ?_, ?_⟩
       · have hcz := hw.cells.1
         go_simp
         (with_reducible exact Rg.up_value)
       simp only [Act.put, List.setIfInBounds_toArray, List.set_cons_zero, List.set_cons_succ])
      (refine Rr.wr_y (by simp only [List.getElem?_toArray, List.getElem?_cons_succ, List.getElem?_cons_zero]; rfl) (by rfl) ?_
       apply Exists.intro
       refine ⟨fun wz hw _ => ?_, ?_⟩
       · have hcz := hw.cells.1
         go_simp
         (with_reducible exact Rg.up_value)
       simp only [Act.put, List.setIfInBounds_toArray, List.set_cons_zero, List.set_cons_succ])
      (refine Rr.wr_y (by simp only [List.getElem?_toArray, List.getElem?_cons_succ, List.getElem?_cons_zero]; rfl) (by rfl) ?_
       apply Exists.intro
       refine ⟨fun wz hw _ => ?_, ?_⟩
       · have hcz := hw.cells.1
         go_simp
         (with_reducible exact Rg.up_value)
       simp only [Act.put, List.setIfInBounds_toArray, List.set_cons_zero, List.set_cons_succ])
      (refine Rr.wr_y (by simp only [List.getElem?_toArray, List.getElem?_cons_succ, List.getElem?_cons_zero]; rfl) (by rfl) ?_
       apply Exists.intro
       refine ⟨fun wz hw _ => ?_, ?_⟩
       · have hcz := hw.cells.1
         go_simp
         (with_reducible exact Rg.up_value)
       simp only [Act.put, List.setIfInBounds_toArray, List.set_cons_zero, List.set_cons_succ])
      (refine Rr.wr_y (by simp only [List.getElem?_toArray, List.getElem?_cons_succ, List.getElem?_cons_zero]; rfl) (by rfl) ?_
       apply Exists.intro
       refine ⟨fun wz hw _ => ?_, ?_⟩
       · have hcz := hw.cells.1
         go_simp
         (with_reducible exact Rg.up_value)
       simp only [Act.put, List.setIfInBounds_toArray, List.set_cons_zero, List.set_cons_succ])
      (refine Rr.wr_y (by simp only [List.getElem?_toArray, List.getElem?_cons_succ, List.getElem?_cons_zero]; rfl) (by rfl) ?_
       apply Exists.intro
       refine ⟨fun wz hw _ => ?_, ?_⟩
       · have hcz := hw.cells.1
         go_simp
         (with_reducible exact Rg.up_value)
       simp only [Act.put, List.setIfInBounds_toArray, List.set_cons_zero, List.set_cons_succ])
      (refine Rr.wr_y (by simp only [List.getElem?_toArray, List.getElem?_cons_succ, List.getElem?_cons_zero]; rfl) (by rfl) ?_
       apply Exists.intro
       refine ⟨fun wz hw _ => ?_, ?_⟩
       · have hcz := hw.cells.1
         go_simp
         apply Rg.up_enter
         (with_reducible refine (HT.out _).mono ?_)
         rintro e w3 ⟨rfl, hb3⟩
         exact ⟨rfl, hb3⟩
       simp only [Act.put, List.setIfInBounds_toArray, List.set_cons_zero, List.set_cons_succ])
      refine Rr.wr_nil ?_
      intro wz hz hh
      clear hh
      simp only [List.length_cons, List.length_nil, List.drop_succ_cons, List.drop_zero, Nat.reduceAdd]
      have HA := Lib.hid ((HR4.out.ext hz).ask1 ⟨q1, txtF q3⟩ T o1 (okI_small (by omega)))
      have HXY := Lib.hid (HX4.out.trans hz)
      clear hz d1 d3 bl4 HT
      generalize askE r ⟨q1, txtF q3⟩ T = er at *
      generalize askR r ⟨q1, txtF q3⟩ T = r1 at *
      go_upto_region 13 with (go_at_call 20; (with_reducible refine HA.out.mono ?_); rintro e w5 ⟨rfl, hr5, hb5⟩)
      have HX5 : Hid (Ext w1 w5) := Lib.hid (Below.trans HXY.out (HP.out ▸ hb5))
      have HTK := Lib.hid (hr5.symm.tick1 T (okI_small (by omega)))
      have HLE := Lib.hid (fun ts (h : (tickF r1 T).1 = some ts) => tick_len h hr5.len.1)
      have HPO := Lib.hid (fun ts (h : (tickF r1 T).1 = some ts) => tick_pos h)
      have HN5 := Lib.hid hr5.lt
      clear hr5 hb5 HA HXY
      go_upto_region 14 with (go_at_call 16; (with_reducible refine HTK.out.mono ?_); rintro e w6 ⟨v6, rfl, hv6, hr6, hb6, hk6⟩)
      have HX6 : Hid (Ext w1 w6) := Lib.hid (Below.trans HX5.out (HP.out ▸ hb6))
      have HV6 := Lib.hid hv6
      have HTK2 := Lib.hid (hr6.symm.tick1 T (okI_small (by omega)))
      clear hv6 hr6 hb6 hk6 HTK
      obtain ⟨o, ho⟩ : ∃ o, o = (tickF r1 T).1 := ⟨_, rfl⟩
      rw [← ho] at HV6 HTK2 HLE HPO
      clear ho
      generalize (tickF r1 T).2 = r2 at *
      go_upto_region 15 with (go_at_call 16; (with_reducible refine HTK2.out.mono ?_); rintro e w7 ⟨v7, rfl, hv7, hr7, hb7, hk7⟩)
      have HX7 : Hid (Ext w1 w7) := Lib.hid (Below.trans HX6.out (HP.out ▸ hb7))
      have HR7 := Lib.hid hr7.symm
      have HV := Lib.hid (HV6.out.k1 hk7 HN5.out.2.1)
      have hSm := same_any v6 v7 o o w7 HV.out hv7 HLE.out HLE.out
      rw [decide_eq_true rfl] at hSm
      have HS := Lib.hid hSm
      clear hv7 hr7 hb7 hk7 hSm HTK2 HV6 HX6
      cases o with
      | none =>
        obtain rfl : v6 = .slice none 0 0 := HV.out
        go_upto_region 17 with (go_at_call 15; (with_reducible refine HS.out.mono ?_); rintro e w8 ⟨rfl, hx8⟩)
        have HX8 : Hid (Ext w1 w8) := Lib.hid (HX7.out.trans hx8)
        have HR8 := Lib.hid (HR7.out.ext hx8)
        clear hx8
        go_wp2_with (fail)
        go_loopw [10] (fun kv wq => kv = .int .i64 0 ∧ w8 = wq) (fun _ _ => 0)
        case atStart => exact ⟨rfl, rfl⟩
        case round =>
          obtain ⟨rfl, rfl⟩ := hrel
          go_wp2_with (fail)
          exact ⟨⟨i + 1, T, r2, by simp, rfl, by omega, by omega, by omega, by omega, HR8, HX8⟩, by simp [iof]; omega⟩
      | some ts =>
        have hpos := HPO.out ts rfl
        have hNb := HLE.out ts rfl
        obtain ⟨g, gb, c, cur, rfl, g1, g2, g3, hcg, hcb, hcl⟩ := batch_row HV.out hpos
        have hN5 := HN5.out
        have gp1 : gb ≠ p1 := by omega
        have gp2 : gb ≠ p2 := by omega
        have gw : w1.heap.size ≤ gb := by have := HP.out; omega
        go_upto_region 17 with (go_at_call 15; (with_reducible refine HS.out.mono ?_); rintro e w8 ⟨rfl, hx8⟩)
        have HX8 : Hid (Ext w1 w8) := Lib.hid (HX7.out.trans hx8)
        have HR8 := Lib.hid (HR7.out.ext hx8)
        have HCG := Lib.hid ((hx8.block _ (Rg.lt_of_heap hcg)).trans hcg)
        have HCB := Lib.hid ((hx8.block _ (Rg.lt_of_heap hcb)).trans hcb)
        have HCL := Lib.hid hcl
        have HG := Lib.hid gp1; have HG2 := Lib.hid gp2; have HGW := Lib.hid gw; have HGG := Lib.hid g3
        clear hx8 hcg hcb hcl hN5 HN5 g1 g2 gp1 gp2 gw hpos HV g3 HLE HPO
        generalize ts.length = N at *
        go_wp2_with (fail)
        go_loopw [10] (fun kv wq => ∃ (j : Nat) (cq : Array Value), j ≤ 1 ∧ kv = .int .i64 j ∧ Hid (wq.heap[g]? = some (.cells #[.slice (some ⟨gb, 0, none⟩) N c] 38)) ∧ Hid (wq.heap[gb]? = some (.cells cq 9)) ∧ Hid (N ≤ cq.size) ∧ Hid (R2 p1 wq p1 p2 r2 r2) ∧ Hid (Ext w1 wq)) (fun kv _ => 1 - (iof kv).toNat)
        case atStart => exact ⟨0, cur, by omega, rfl, HCG, HCB, HCL, HR8, HX8⟩
        case round =>
          obtain ⟨j, cq, hj, rfl, KG, KB, KL, KR, KX⟩ := hrel
          by_cases hj1 : j = 1
          · subst hj1
            go_wp2_with (fail)
            exact ⟨⟨i + 1, T, r2, by simp, rfl, by omega, by omega, by omega, by omega, KR, KX⟩, by simp [iof]; omega⟩
          · obtain rfl : j = 0 := by omega
            go_wp2_with (fail)
            rename World => wq
            go_loopw [11] (fun kv wz => ∃ (k : Nat) (cz : Array Value), k ≤ N ∧ kv = .int .i64 k ∧ Hid (wz.heap[g]? = some (.cells #[.slice (some ⟨gb, 0, none⟩) N c] 38)) ∧ Hid (wz.heap[gb]? = some (.cells cz 9)) ∧ Hid (N ≤ cz.size) ∧ Hid (R2 p1 wz p1 p2 r2 r2) ∧ Hid (Ext w1 wz)) (fun kv _ => N - (iof kv).toNat)
            case atStart => exact ⟨0, cq, Nat.zero_le _, rfl, KG, KB, KL, KR, KX⟩
            case round =>
              obtain ⟨k, cz, hk, rfl, JG, JB, JL, JR, JX⟩ := hrel
              rename World => wz
              have c0 : wz.cell? ⟨g, 0, none⟩ = some (.slice (some ⟨gb, 0, none⟩) N c) := cell_of_row _ _ 0 _ _ _ JG.out
              have gl := Rg.lt_of_heap JG.out
              by_cases hkN : k < N
              · have hks : k < cz.size := by have := JL.out; omega
                have c1 : wz.cell? ⟨gb, k, none⟩ = some cz[k] := by rw [cell_of_row _ _ _ _ _ _ JB.out]; simp [hks]
                have f1 := (Rg.cells_of JB.out).2.1 k
                have gbl := Rg.lt_of_heap JB.out
                generalize cz[k] = old at *
                go_wp2_with (fail)
                refine ⟨⟨k + 1, cz.setIfInBounds k (.string ⟨#[99, 104, 97, 110, 103, 101, 100]⟩), by omega, by simp, Lib.hid ((heap_setCell_other _ HGG.out).trans JG.out), Lib.hid (heap_setCell_row _ JB.out), Lib.hid (by simpa using JL.out), Lib.hid (JR.out.wrote JB.out HG.out HG2.out _), Lib.hid (Ext.setCell JX.out HGW.out _)⟩, by simp [iof]; omega⟩
              · obtain rfl : k = N := by omega
                go_wp2_with (fail)
                exact ⟨⟨1, cz, by omega, by simp, JG, JB, JL, JR, JX⟩, by simp [iof]⟩
    · have hcnd : i < 30 → ¬ i < ls.length := fun h1 h2 => hi2 ⟨h2, h1⟩
      have HC1 := Lib.hid HRX.out.close1
      have HLT := Lib.hid HRX.out.lt
      have HLE := Lib.hid (fun ts (h : (closeF r).1 = some ts) => close_len h HRX.out.len.1)
      have HC2 := Lib.hid (fun w' (h : R2 p1 w' p1 p2 (closeF r).2 r) => h.symm.close1)
      obtain ⟨o, ho⟩ : ∃ o, o = (closeF r).1 := ⟨_, rfl⟩
      rw [← ho] at HC1 HLE HC2
      clear ho
      generalize (closeF r).2 = r2 at *
      by_cases hi4 : i < 30
      · have hi5 : ¬ (i : Int) < (ls.length : Int) := by have := hcnd hi4; omega
        clear hcnd hi2
        go_wp2_with (first
          | (go_at_call 18; (with_reducible refine HC1.out.mono ?_); rintro e w6 ⟨v6, rfl, hv6, hr6, hb6, hk6⟩; clear HC1)
          | (go_at_call 18; (with_reducible refine (HC2.out _ hr6).mono ?_); rintro e w7 ⟨v7, rfl, hv7, hr7, hb7, hk7⟩; have hSm := same_any v6 v7 o o w7 (hv6.k1 hk7 HLT.out.2.2.2) hv7 HLE.out HLE.out; rw [decide_eq_true rfl] at hSm)
          | (go_at_call 15; (with_reducible refine hSm.mono ?_); rintro e w8 ⟨rfl, hx8⟩))
        go_ret
        exact ⟨rfl, HX1.out.trans ((Below.trans HX.out (Below.trans (HP.out ▸ hb6) (HP.out ▸ hb7))).trans (Below.mono hx8 (by have := (Below.trans HX.out (Below.trans (HP.out ▸ hb6) (HP.out ▸ hb7)) : Ext w1 w7).size; omega)))⟩
      · have hi5 : ¬ (i : Int) < 30 := by omega
        have hi30 : i = 30 := by omega
        subst hi30
        clear hcnd hi2
        by_cases hi6 : (30 : Int) < (ls.length : Int)
        · skip
          go_wp2_with (first
            | (go_at_call 18; (with_reducible refine HC1.out.mono ?_); rintro e w6 ⟨v6, rfl, hv6, hr6, hb6, hk6⟩; clear HC1)
            | (go_at_call 18; (with_reducible refine (HC2.out _ hr6).mono ?_); rintro e w7 ⟨v7, rfl, hv7, hr7, hb7, hk7⟩; have hSm := same_any v6 v7 o o w7 (hv6.k1 hk7 HLT.out.2.2.2) hv7 HLE.out HLE.out; rw [decide_eq_true rfl] at hSm)
            | (go_at_call 15; (with_reducible refine hSm.mono ?_); rintro e w8 ⟨rfl, hx8⟩))
          go_ret
          exact ⟨rfl, HX1.out.trans ((Below.trans HX.out (Below.trans (HP.out ▸ hb6) (HP.out ▸ hb7))).trans (Below.mono hx8 (by have := (Below.trans HX.out (Below.trans (HP.out ▸ hb6) (HP.out ▸ hb7)) : Ext w1 w7).size; omega)))⟩
        · skip
          go_wp2_with (first
            | (go_at_call 18; (with_reducible refine HC1.out.mono ?_); rintro e w6 ⟨v6, rfl, hv6, hr6, hb6, hk6⟩; clear HC1)
            | (go_at_call 18; (with_reducible refine (HC2.out _ hr6).mono ?_); rintro e w7 ⟨v7, rfl, hv7, hr7, hb7, hk7⟩; have hSm := same_any v6 v7 o o w7 (hv6.k1 hk7 HLT.out.2.2.2) hv7 HLE.out HLE.out; rw [decide_eq_true rfl] at hSm)
            | (go_at_call 15; (with_reducible refine hSm.mono ?_); rintro e w8 ⟨rfl, hx8⟩))
          go_ret
          exact ⟨rfl, HX1.out.trans ((Below.trans HX.out (Below.trans (HP.out ▸ hb6) (HP.out ▸ hb7))).trans (Below.mono hx8 (by have := (Below.trans HX.out (Below.trans (HP.out ▸ hb6) (HP.out ▸ hb7)) : Ext w1 w7).size; omega)))⟩
end Go.Proofs.Ytbeoihjfjkbfhaa
