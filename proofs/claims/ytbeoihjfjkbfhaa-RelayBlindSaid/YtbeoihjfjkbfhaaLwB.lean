/-
  RelayBlind: other numbers for the askers, another order: the same batches. Nothing is asked.
-/
import Derived.Test.YtbeoihjfjkbfhaaBlQ
namespace Go.Proofs.Ytbeoihjfjkbfhaa
set_option linter.unusedVariables false
set_option linter.unusedSimpArgs false
open Go.RowKit
set_option maxRecDepth 100000 in
set_option maxHeartbeats 16000000 in
theorem blind_walk (v : Value) (ls : List (List Int)) (x y : Int) (hx : 0 ≤ x ∧ x < 256) (hy : 0 ≤ y ∧ y < 256) (w : World) (hl : RN 4 w v ls) :
    Calls Try.prog 5 #[v, .int .u8 x, .int .u8 y] w fun e w' => e = .returned (.bool true) ∧ Ext w w' := by
  obtain ⟨base, cp, rfl, hlen⟩ := hl.form
  obtain ⟨need, hneed⟩ : ∃ need, need = x % 4 + 1 := ⟨_, rfl⟩
  have n1 : 1 ≤ need := by omega
  have n2 : need ≤ 4 := by omega
  go_enter Try.func5, Try.ntmps5
  go_upto_region 4 with (first
    | (go_at_call 11; (with_reducible refine (sanity_any _).mono ?_); rintro e w1 ⟨rfl, hx1⟩)
    | (go_at_call 12; refine (new_x _ 10 _ (okI_small (by omega)) (okI_small (by decide))).mono ?_; rintro e w2 ⟨rfl, hr2, hx2⟩))
  rw [← hneed] at hr2 ⊢
  clear hneed hx
  have HX1 := Lib.hid hx1; have HX2 := Lib.hid hx2; have HR2 := Lib.hid hr2; have HL1 := Lib.hid (hl.ext hx1); have HLEN := Lib.hid hlen
  clear hx1 hx2 hr2 hl hlen
  obtain ⟨p1, hp⟩ : ∃ p, p = w1.heap.size := ⟨_, rfl⟩
  rw [← hp]
  have HP := Lib.hid hp
  clear hp
  go_upto_region 5 with (go_at_call 12; refine (new_x _ 10 _ (okI_small (by omega)) (okI_small (by decide))).mono ?_; rintro e w3 ⟨rfl, hr3, hx3⟩)
  have hR2 := R2.both_ (HP.out ▸ HR2.out : RX p1 w2 p1 _) hr3 hx3
  have HX3 : Hid (Ext w1 w3) := Lib.hid (HX2.out.trans hx3)
  obtain ⟨p2, hp2⟩ : ∃ p, p = w2.heap.size := ⟨_, rfl⟩
  rw [← hp2] at hR2 ⊢
  have HRR := Lib.hid hR2
  clear hp2 hr3 hx3 hR2 HR2 HX2
  go_wp2_with (fail)
  go_loopw [11] (fun k wr => ∃ (per : Nat) (ra rb : Rl) (ma mb : List (Qn × Int)), k = .int .i64 per ∧ per ≤ 5 ∧ ma.length ≤ 20 * per ∧ Hid (R2 p1 wr p1 p2 ra rb) ∧ Hid (Op need ra ma (10 * per)) ∧ Hid (Op need rb mb (10 * per)) ∧ Hid (BM y ma mb) ∧ Hid (Ext w1 wr)) (fun k _ => 5 - (iof k).toNat)
  case atStart => exact ⟨0, _, _, [], [], rfl, by omega, by simp, HRR, Lib.hid ⟨0, false, rfl, by omega⟩, Lib.hid ⟨0, false, rfl, by omega⟩, Lib.hid ⟨by simp, by simp, by simp, by simp⟩, HX3⟩
  case round =>
    obtain ⟨per, ra, rb, ma, mb, rfl, hper, hml, HR, HA, HB, HM, HX⟩ := hrel
    by_cases hper5 : per < 5
    · have hpi : (per : Int) < 5 := by omega
      obtain ⟨n, hnw, hnw2, hn1, hn2⟩ : ∃ n, n ≤ wr.heap.size ∧ wr.heap.size ≤ n ∧ p1 < n ∧ p2 < n := ⟨_, Nat.le_refl _, Nat.le_refl _, HR.out.lt.2.1, HR.out.lt.2.2.2⟩
      have HNW := Lib.hid hnw; have HNW2 := Lib.hid hnw2
      clear hnw hnw2
      go_wp2_with (fail)
      go_loopw [12, 13] (fun lv k wl => ∃ (i : Nat) (l : List A4), k = .int .i64 i ∧ i ≤ 20 ∧ i ≤ ls.length ∧ l.length ≤ i ∧ Hid (wl.ownsRow n 46 4 lv l.length (l.flatMap A4.cs)) ∧ Hid (∀ x ∈ l, x.ok) ∧ Hid (Ext wr wl)) (fun _ k _ => 20 - (iof k).toNat)
      case atStart => exact ⟨0, [], rfl, by omega, by omega, by simp, Lib.hid (World.ownsRow_nil _ _ _ _), Lib.hid (by simp), Lib.hid (Ext.refl _)⟩
      case round =>
        obtain ⟨i, l, rfl, hi, hil, hli, HROW, HOK, HXL⟩ := hrel
        by_cases hi2 : i < ls.length ∧ i < 20
        · obtain ⟨hi3, hi4⟩ := hi2
          obtain ⟨b, off, q0, q1, q2, q3, rfl, bl0, k0, k1, k2, k3, o0, o1, o2, o3, -⟩ := act_at HL1.out i hi3
          have hx9 := HX.out.trans HXL.out
          have bl : b < wr.heap.size := Nat.lt_of_lt_of_le bl0 hx9.size
          have c0 := (hx9.cells.1 _ _ bl0).trans k0
          have c1 := (hx9.cells.1 _ _ bl0).trans k1
          have c2 := (hx9.cells.1 _ _ bl0).trans k2
          have c3 := (hx9.cells.1 _ _ bl0).trans k3
          clear k0 k1 k2 k3 bl0 hx9
          have hlc : (i : Int) < (ls.length : Int) := by omega
          have hi20 : (i : Int) < 20 := by omega
          obtain ⟨s, hs⟩ : ∃ s, s = q2 % 5 := ⟨_, rfl⟩
          have HM2 := Lib.hid (fun w => mod_any q2 5 (by decide) (by decide) o2 w)
          rw [← hs] at HM2
          clear hs
          by_cases hsp : s = per
          · subst hsp
            go_wp2_with (first
              | (go_at_call 24; refine (HM2.out _).mono ?_; rintro e w3 ⟨rfl, rfl⟩)
              | (refine append_a rfl (.tmp 53) (.tmp 58) rfl n u12 l (by rfl) (row_ext HROW.out (Ext.alloc (Ext.refl _) _)) wr.heap.size ⟨q0, q1, q2, q3⟩ (by rfl) (alloc_at wr _) (by omega) (Nat.le_trans (Nat.le_trans HNW.out HXL.out.size) (Ext.alloc (Ext.refl wr) _).size) ?_; intro g cap w4 hrow4 hb4))
            refine ⟨⟨i + 1, l ++ [⟨q0, q1, q2, q3⟩], by simp, by omega, by omega, by rw [List.length_append]; simp only [List.length_cons, List.length_nil]; omega, Lib.hid hrow4, Lib.hid fun x hx => ?_, Lib.hid (Below.trans HXL.out (Below.trans (Below.mono (Ext.alloc (Ext.refl wr) _) HXL.out.size) (Below.mono hb4 HNW2.out)))⟩, by simp [iof]; omega⟩
            rcases List.mem_append.1 hx with hx | hx
            · exact HOK.out x hx
            · rw [List.mem_singleton.1 hx]
              exact ⟨o1, o3⟩
          · go_wp2_with (go_at_call 24; refine (HM2.out _).mono ?_; rintro e w3 ⟨rfl, rfl⟩)
            exact ⟨⟨i + 1, l, by simp, by omega, by omega, by omega, HROW, HOK, HXL⟩, by simp [iof]; omega⟩
        · have HLB := Lib.hid (LB.of_row HROW.out)
          have HRX := Lib.hid (HR.out.ext HXL.out)
          have HXX := Lib.hid (HX.out.trans HXL.out)
          have hl20 : l.length ≤ 20 := by omega
          clear HROW HR HXL HX HNW HNW2
          obtain ⟨A, lc, rfl⟩ := HLB.out.form
          obtain ⟨qs, hqs⟩ : ∃ qs, qs = l.map A4.q := ⟨_, rfl⟩
          have hql : qs.length = l.length := by rw [hqs, List.length_map]
          have HQS := Lib.hid hqs
          clear hqs
          by_cases hi4 : i < 20
          · have hi5 : ¬ (i : Int) < (ls.length : Int) := by omega
            go_wp2_with (fail)
            go_loopw [14] (fun k wr => ∃ (j : Nat) (ra : Rl), k = .int .i64 j ∧ j ≤ l.length ∧ Hid (R2 p1 wr p1 p2 ra rb) ∧ Hid (Op need ra (gA per ma (qs.take j)) (10 * per + min (j : Int) 9)) ∧ Hid (LB n wr (.slice A l.length lc) l) ∧ Hid (Ext w1 wr)) (fun k _ => l.length - (iof k).toNat)
            case atStart => exact ⟨0, ra, rfl, by omega, HRX, Lib.hid (by rw [List.take_zero]; exact HA.out.mono (by omega)), HLB, HXX⟩
            case round =>
              obtain ⟨j, ra, rfl, hj, HR, HA, HLB, HX⟩ := hrel
              by_cases hjl : j < l.length
              · obtain ⟨g, rfl, gl, g1, g3⟩ := HLB.out.at j hjl
                have ho := HOK.out l[j] (List.getElem_mem _)
                have hqj : qs[j]'(by omega) = ⟨l[j].b % 6, txtF l[j].d⟩ := by simp only [HQS.out, List.getElem_map]; rfl
                have HQJ := Lib.hid hqj
                clear hqj
                generalize l[j] = xx at *
                obtain ⟨xa, xb, xc, xd⟩ := xx
                simp only at g1 g3 HQJ
                have ho1 : OkI xb := ho.1
                have ho3 : OkI xd := ho.2
                clear ho
                obtain ⟨m, hm⟩ : ∃ m, m = xb % 6 := ⟨_, rfl⟩
                have m0 : 0 ≤ m := by omega
                have m1 : m < 6 := by omega
                have HM1 := Lib.hid (fun w => mod_x xb 6 (by decide) (by decide) ho1 w)
                rw [← hm] at HM1 HQJ
                clear hm
                have HT := Lib.hid (fun w => text_any xd w ho3)
                have hjc : (j : Int) < (l.length : Int) := by omega
                have HXL := Lib.hid HLB.out
                go_upto_region 19 with (fail)
                refine Rr.wp_region [(0, .y), (1, .y), (2, .y), (3, .y), (4, .y), (5, .y), (6, .y), (7, .y), (8, .y), (9, .y), (10, .y), (11, .y), (12, .y), (13, .y), (14, .y), (15, .y), (16, .y), (17, .y)] (fun _ => (.cells #[] 29, Rg.ptr)) (by kernel_rfl) (by kernel_rfl) ?_
                (refine Rr.wr_y (by simp only [List.getElem?_toArray, List.getElem?_cons_succ, List.getElem?_cons_zero]; rfl) (by rfl) ?_
                 apply Exists.intro
                 refine ⟨fun wz hw _ => ?_, ?_⟩
                 · have hcz := hw.cells.1
                   go_simp
                   (with_reducible exact Rg.up_value)
                 simp only [Act.put, List.setIfInBounds_toArray, List.set_cons_zero, List.set_cons_succ])
                (refine Rr.wr_y (by simp only [List.getElem?_toArray, List.getElem?_cons_succ, List.getElem?_cons_zero]; rfl) (by rfl) ?_
                 apply Exists.intro
                 refine ⟨fun wz hw _ => ?_, ?_⟩
                 · have hcz := hw.cells.1
                   go_simp
                   (with_reducible exact Rg.up_value)
                 simp only [Act.put, List.setIfInBounds_toArray, List.set_cons_zero, List.set_cons_succ])
                (refine Rr.wr_y (by simp only [List.getElem?_toArray, List.getElem?_cons_succ, List.getElem?_cons_zero]; rfl) (by rfl) ?_
                 apply Exists.intro
                 refine ⟨fun wz hw _ => ?_, ?_⟩
                 · have hcz := hw.cells.1
                   go_simp
                   (with_reducible exact Rg.up_value)
                 simp only [Act.put, List.setIfInBounds_toArray, List.set_cons_zero, List.set_cons_succ])
                (refine Rr.wr_y (by simp only [List.getElem?_toArray, List.getElem?_cons_succ, List.getElem?_cons_zero]; rfl) (by rfl) ?_
                 apply Exists.intro
                 refine ⟨fun wz hw _ => ?_, ?_⟩
                 · have hcz := hw.cells.1
                   go_simp
                   (with_reducible exact Rg.up_value)
                 simp only [Act.put, List.setIfInBounds_toArray, List.set_cons_zero, List.set_cons_succ])
                (refine Rr.wr_y (by simp only [List.getElem?_toArray, List.getElem?_cons_succ, List.getElem?_cons_zero]; rfl) (by rfl) ?_
                 apply Exists.intro
                 refine ⟨fun wz hw _ => ?_, ?_⟩
                 · have hcz := hw.cells.1
                   go_simp
                   (with_reducible exact Rg.up_value)
                 simp only [Act.put, List.setIfInBounds_toArray, List.set_cons_zero, List.set_cons_succ])
                (refine Rr.wr_y (by simp only [List.getElem?_toArray, List.getElem?_cons_succ, List.getElem?_cons_zero]; rfl) (by rfl) ?_
                 apply Exists.intro
                 refine ⟨fun wz hw _ => ?_, ?_⟩
                 · have hcz := hw.cells.1
                   go_simp
                   (with_reducible exact Rg.up_value)
                 simp only [Act.put, List.setIfInBounds_toArray, List.set_cons_zero, List.set_cons_succ])
                (refine Rr.wr_y (by simp only [List.getElem?_toArray, List.getElem?_cons_succ, List.getElem?_cons_zero]; rfl) (by rfl) ?_
                 apply Exists.intro
                 refine ⟨fun wz hw _ => ?_, ?_⟩
                 · have hcz := hw.cells.1
                   go_simp
                   apply Rg.up_enter
                   (with_reducible refine (HM1.out _).mono ?_)
                   rintro e w3 ⟨rfl, hb3⟩
                   exact ⟨rfl, hb3⟩
                 simp only [Act.put, List.setIfInBounds_toArray, List.set_cons_zero, List.set_cons_succ])
                (refine Rr.wr_y (by simp only [List.getElem?_toArray, List.getElem?_cons_succ, List.getElem?_cons_zero]; rfl) (by rfl) ?_
                 apply Exists.intro
                 refine ⟨fun wz hw _ => ?_, ?_⟩
                 · have hcz := hw.cells.1
                   go_simp
                   (with_reducible exact Rg.up_value)
                 simp only [Act.put, List.setIfInBounds_toArray, List.set_cons_zero, List.set_cons_succ])
                (refine Rr.wr_y (by simp only [List.getElem?_toArray, List.getElem?_cons_succ, List.getElem?_cons_zero]; rfl) (by rfl) ?_
                 apply Exists.intro
                 refine ⟨fun wz hw _ => ?_, ?_⟩
                 · have hcz := hw.cells.1
                   go_simp
                   (with_reducible exact Rg.up_value)
                 simp only [Act.put, List.setIfInBounds_toArray, List.set_cons_zero, List.set_cons_succ])
                (refine Rr.wr_y (by simp only [List.getElem?_toArray, List.getElem?_cons_succ, List.getElem?_cons_zero]; rfl) (by rfl) ?_
                 apply Exists.intro
                 refine ⟨fun wz hw _ => ?_, ?_⟩
                 · have hcz := hw.cells.1
                   go_simp
                   (with_reducible exact Rg.up_value)
                 simp only [Act.put, List.setIfInBounds_toArray, List.set_cons_zero, List.set_cons_succ])
                (refine Rr.wr_y (by simp only [List.getElem?_toArray, List.getElem?_cons_succ, List.getElem?_cons_zero]; rfl) (by rfl) ?_
                 apply Exists.intro
                 refine ⟨fun wz hw _ => ?_, ?_⟩
                 · have hcz := hw.cells.1
                   go_simp
                   (with_reducible exact Rg.up_value)
                 simp only [Act.put, List.setIfInBounds_toArray, List.set_cons_zero, List.set_cons_succ])
                (refine Rr.wr_y (by simp only [List.getElem?_toArray, List.getElem?_cons_succ, List.getElem?_cons_zero]; rfl) (by rfl) ?_
                 apply Exists.intro
                 refine ⟨fun wz hw _ => ?_, ?_⟩
                 · have hcz := hw.cells.1
                   go_simp
                   (with_reducible exact Rg.up_value)
                 simp only [Act.put, List.setIfInBounds_toArray, List.set_cons_zero, List.set_cons_succ])
                (refine Rr.wr_y (by simp only [List.getElem?_toArray, List.getElem?_cons_succ, List.getElem?_cons_zero]; rfl) (by rfl) ?_
                 apply Exists.intro
                 refine ⟨fun wz hw _ => ?_, ?_⟩
                 · have hcz := hw.cells.1
                   go_simp
                   (with_reducible exact Rg.up_value)
                 simp only [Act.put, List.setIfInBounds_toArray, List.set_cons_zero, List.set_cons_succ])
                (refine Rr.wr_y (by simp only [List.getElem?_toArray, List.getElem?_cons_succ, List.getElem?_cons_zero]; rfl) (by rfl) ?_
                 apply Exists.intro
                 refine ⟨fun wz hw _ => ?_, ?_⟩
                 · have hcz := hw.cells.1
                   go_simp
                   (with_reducible exact Rg.up_value)
                 simp only [Act.put, List.setIfInBounds_toArray, List.set_cons_zero, List.set_cons_succ])
                (refine Rr.wr_y (by simp only [List.getElem?_toArray, List.getElem?_cons_succ, List.getElem?_cons_zero]; rfl) (by rfl) ?_
                 apply Exists.intro
                 refine ⟨fun wz hw _ => ?_, ?_⟩
                 · have hcz := hw.cells.1
                   go_simp
                   (with_reducible exact Rg.up_value)
                 simp only [Act.put, List.setIfInBounds_toArray, List.set_cons_zero, List.set_cons_succ])
                (refine Rr.wr_y (by simp only [List.getElem?_toArray, List.getElem?_cons_succ, List.getElem?_cons_zero]; rfl) (by rfl) ?_
                 apply Exists.intro
                 refine ⟨fun wz hw _ => ?_, ?_⟩
                 · have hcz := hw.cells.1
                   go_simp
                   (with_reducible exact Rg.up_value)
                 simp only [Act.put, List.setIfInBounds_toArray, List.set_cons_zero, List.set_cons_succ])
                (refine Rr.wr_y (by simp only [List.getElem?_toArray, List.getElem?_cons_succ, List.getElem?_cons_zero]; rfl) (by rfl) ?_
                 apply Exists.intro
                 refine ⟨fun wz hw _ => ?_, ?_⟩
                 · have hcz := hw.cells.1
                   go_simp
                   (with_reducible exact Rg.up_value)
                 simp only [Act.put, List.setIfInBounds_toArray, List.set_cons_zero, List.set_cons_succ])
                (refine Rr.wr_y (by simp only [List.getElem?_toArray, List.getElem?_cons_succ, List.getElem?_cons_zero]; rfl) (by rfl) ?_
                 apply Exists.intro
                 refine ⟨fun wz hw _ => ?_, ?_⟩
                 · have hcz := hw.cells.1
                   go_simp
                   apply Rg.up_enter
                   (with_reducible refine (HT.out _).mono ?_)
                   rintro e w3 ⟨rfl, hb3⟩
                   exact ⟨rfl, hb3⟩
                 simp only [Act.put, List.setIfInBounds_toArray, List.set_cons_zero, List.set_cons_succ])
                refine Rr.wr_nil ?_
                intro wy hy hh
                clear hh
                simp only [List.length_cons, List.length_nil, List.drop_succ_cons, List.drop_zero, Nat.reduceAdd]
                have HG : Hid (gA per ma (qs.take (j + 1)) = gadd (gA per ma (qs.take j)) ⟨m, txtF xd⟩ per) := Lib.hid (by rw [List.take_succ_eq_append_getElem (by omega), gA_snoc, HQJ.out])
                have HXY := Lib.hid (HX.out.trans hy)
                have HLY := Lib.hid (HLB.out.ext hy)
                have HRY := Lib.hid ((HR.out.ext hy).ask2 ⟨m, txtF xd⟩ (10 * per + min (j : Int) 9) (okI_small (by simp only; omega)) (okI_small (by omega)))
                have HAY := Lib.hid (HA.out.ask (q := ⟨m, txtF xd⟩) (t := 10 * per + min (j : Int) 9) (z := per) (by omega) (by have := gA_len per (qs.take j) ma; rw [List.length_take] at this; omega) (by omega))
                rw [← HG.out] at HAY
                clear hy g1 g3 gl HX HLB HR HA HM1 HT HXL HQJ HG
                go_upto_region 18 with (go_at_call 20; (with_reducible refine HRY.out.mono ?_); rintro e w4 ⟨rfl, hr4, hb4, hk4⟩)
                go_wp2_with (fail)
                exact ⟨⟨j + 1, _, by simp, by omega, Lib.hid hr4, Lib.hid (HAY.out.mono (by omega)), Lib.hid (HLY.out.keep hk4 hn1), Lib.hid (Below.trans HXY.out (HP.out ▸ hb4))⟩, by simp [iof]; omega⟩
              · obtain rfl : j = l.length := by omega
                rw [← hql, List.take_length] at HA
                have HA1 := Lib.hid (HA.out.mono (show _ ≤ 10 * (per : Int) + 9 by omega))
                have HR1 := HR; have HL1 := HLB; have HX1 := HX
                clear HA HR HLB HX HRX HXX
                go_wp2_with (fail)
                go_loopw [15] (fun k wr => ∃ (z : Int) (rb : Rl), k = .int .i64 z ∧ -1 ≤ z ∧ z < l.length ∧ Hid (R2 p1 wr p1 p2 ra rb) ∧ Hid (Op need rb (gA per mb ((qs.drop (z + 1).toNat).reverse.map (ph y))) (10 * per + (l.length - 1 - z) / 3)) ∧ Hid (LB n wr (.slice A l.length lc) l) ∧ Hid (Ext w1 wr)) (fun k _ => (iof k + 1).toNat)
                case atStart => exact ⟨_, rb, rfl, by omega, by omega, HR1, Lib.hid (by rw [List.drop_eq_nil_of_le (by omega)]; exact HB.out.mono (by omega)), HL1, HX1⟩
                case round =>
                  obtain ⟨z, rb, rfl, hz1, hz2, HR, HB, HLB, HX⟩ := hrel
                  by_cases hz0 : 0 ≤ z
                  · obtain ⟨j, rfl⟩ := Int.eq_ofNat_of_zero_le hz0
                    have hjl : j < l.length := by omega
                    obtain ⟨g, rfl, gl, g1, g3⟩ := HLB.out.at j hjl
                    have ho := HOK.out l[j] (List.getElem_mem _)
                    have hqj : qs[j]'(by omega) = ⟨l[j].b % 6, txtF l[j].d⟩ := by simp only [HQS.out, List.getElem_map]; rfl
                    have HQJ := Lib.hid hqj
                    clear hqj
                    generalize l[j] = xx at *
                    obtain ⟨xa, xb, xc, xd⟩ := xx
                    simp only at g1 g3 HQJ
                    have ho1 : OkI xb := ho.1
                    have ho3 : OkI xd := ho.2
                    clear ho
                    obtain ⟨m, hm⟩ : ∃ m, m = xb % 6 := ⟨_, rfl⟩
                    have m0 : 0 ≤ m := by omega
                    have m1 : m < 6 := by omega
                    have HM1 := Lib.hid (fun w => mod_x xb 6 (by decide) (by decide) ho1 w)
                    rw [← hm] at HM1 HQJ
                    clear hm
                    have HT := Lib.hid (fun w => text_any xd w ho3)
                    have hjc : (j : Int) < (l.length : Int) := by omega
                    have hmy : 0 ≤ m + y := by omega
                    have hlj : 0 ≤ (l.length : Int) - 1 - j := by omega
                    have HXL := Lib.hid HLB.out
                    go_upto_region 23 with (fail)
                    refine Rr.wp_region [(0, .y), (1, .y), (2, .y), (3, .y), (4, .y), (5, .y), (6, .y), (7, .y), (8, .y), (9, .y), (10, .y), (11, .y), (12, .y), (13, .y), (14, .y), (15, .y), (16, .y), (17, .y), (18, .y), (19, .y), (20, .y), (21, .y), (22, .y), (23, .y), (24, .y), (25, .y), (26, .y)] (fun _ => (.cells #[] 29, Rg.ptr)) (by kernel_rfl) (by kernel_rfl) ?_
                    (refine Rr.wr_y (by simp only [List.getElem?_toArray, List.getElem?_cons_succ, List.getElem?_cons_zero]; rfl) (by rfl) ?_
                     apply Exists.intro
                     refine ⟨fun wz hw _ => ?_, ?_⟩
                     · have hcz := hw.cells.1
                       go_simp
                       (with_reducible exact Rg.up_value)
                     simp only [Act.put, List.setIfInBounds_toArray, List.set_cons_zero, List.set_cons_succ])
                    (refine Rr.wr_y (by simp only [List.getElem?_toArray, List.getElem?_cons_succ, List.getElem?_cons_zero]; rfl) (by rfl) ?_
                     apply Exists.intro
                     refine ⟨fun wz hw _ => ?_, ?_⟩
                     · have hcz := hw.cells.1
                       go_simp
                       (with_reducible exact Rg.up_value)
                     simp only [Act.put, List.setIfInBounds_toArray, List.set_cons_zero, List.set_cons_succ])
                    (refine Rr.wr_y (by simp only [List.getElem?_toArray, List.getElem?_cons_succ, List.getElem?_cons_zero]; rfl) (by rfl) ?_
                     apply Exists.intro
                     refine ⟨fun wz hw _ => ?_, ?_⟩
                     · have hcz := hw.cells.1
                       go_simp
                       (with_reducible exact Rg.up_value)
                     simp only [Act.put, List.setIfInBounds_toArray, List.set_cons_zero, List.set_cons_succ])
                    (refine Rr.wr_y (by simp only [List.getElem?_toArray, List.getElem?_cons_succ, List.getElem?_cons_zero]; rfl) (by rfl) ?_
                     apply Exists.intro
                     refine ⟨fun wz hw _ => ?_, ?_⟩
                     · have hcz := hw.cells.1
                       go_simp
                       (with_reducible exact Rg.up_value)
                     simp only [Act.put, List.setIfInBounds_toArray, List.set_cons_zero, List.set_cons_succ])
                    (refine Rr.wr_y (by simp only [List.getElem?_toArray, List.getElem?_cons_succ, List.getElem?_cons_zero]; rfl) (by rfl) ?_
                     apply Exists.intro
                     refine ⟨fun wz hw _ => ?_, ?_⟩
                     · have hcz := hw.cells.1
                       go_simp
                       (with_reducible exact Rg.up_value)
                     simp only [Act.put, List.setIfInBounds_toArray, List.set_cons_zero, List.set_cons_succ])
                    (refine Rr.wr_y (by simp only [List.getElem?_toArray, List.getElem?_cons_succ, List.getElem?_cons_zero]; rfl) (by rfl) ?_
                     apply Exists.intro
                     refine ⟨fun wz hw _ => ?_, ?_⟩
                     · have hcz := hw.cells.1
                       go_simp
                       (with_reducible exact Rg.up_value)
                     simp only [Act.put, List.setIfInBounds_toArray, List.set_cons_zero, List.set_cons_succ])
                    (refine Rr.wr_y (by simp only [List.getElem?_toArray, List.getElem?_cons_succ, List.getElem?_cons_zero]; rfl) (by rfl) ?_
                     apply Exists.intro
                     refine ⟨fun wz hw _ => ?_, ?_⟩
                     · have hcz := hw.cells.1
                       go_simp
                       apply Rg.up_enter
                       (with_reducible refine (HM1.out _).mono ?_)
                       rintro e w3 ⟨rfl, hb3⟩
                       exact ⟨rfl, hb3⟩
                     simp only [Act.put, List.setIfInBounds_toArray, List.set_cons_zero, List.set_cons_succ])
                    (refine Rr.wr_y (by simp only [List.getElem?_toArray, List.getElem?_cons_succ, List.getElem?_cons_zero]; rfl) (by rfl) ?_
                     apply Exists.intro
                     refine ⟨fun wz hw _ => ?_, ?_⟩
                     · have hcz := hw.cells.1
                       go_simp
                       (with_reducible exact Rg.up_value)
                     simp only [Act.put, List.setIfInBounds_toArray, List.set_cons_zero, List.set_cons_succ])
                    (refine Rr.wr_y (by simp only [List.getElem?_toArray, List.getElem?_cons_succ, List.getElem?_cons_zero]; rfl) (by rfl) ?_
                     apply Exists.intro
                     refine ⟨fun wz hw _ => ?_, ?_⟩
                     · have hcz := hw.cells.1
                       go_simp
                       (with_reducible exact Rg.up_value)
                     simp only [Act.put, List.setIfInBounds_toArray, List.set_cons_zero, List.set_cons_succ])
                    (refine Rr.wr_y (by simp only [List.getElem?_toArray, List.getElem?_cons_succ, List.getElem?_cons_zero]; rfl) (by rfl) ?_
                     apply Exists.intro
                     refine ⟨fun wz hw _ => ?_, ?_⟩
                     · have hcz := hw.cells.1
                       go_simp
                       (with_reducible exact Rg.up_value)
                     simp only [Act.put, List.setIfInBounds_toArray, List.set_cons_zero, List.set_cons_succ])
                    (refine Rr.wr_y (by simp only [List.getElem?_toArray, List.getElem?_cons_succ, List.getElem?_cons_zero]; rfl) (by rfl) ?_
                     apply Exists.intro
                     refine ⟨fun wz hw _ => ?_, ?_⟩
                     · have hcz := hw.cells.1
                       go_simp
                       (with_reducible exact Rg.up_value)
                     simp only [Act.put, List.setIfInBounds_toArray, List.set_cons_zero, List.set_cons_succ])
                    (refine Rr.wr_y (by simp only [List.getElem?_toArray, List.getElem?_cons_succ, List.getElem?_cons_zero]; rfl) (by rfl) ?_
                     apply Exists.intro
                     refine ⟨fun wz hw _ => ?_, ?_⟩
                     · have hcz := hw.cells.1
                       go_simp
                       (with_reducible exact Rg.up_value)
                     simp only [Act.put, List.setIfInBounds_toArray, List.set_cons_zero, List.set_cons_succ])
                    (refine Rr.wr_y (by simp only [List.getElem?_toArray, List.getElem?_cons_succ, List.getElem?_cons_zero]; rfl) (by rfl) ?_
                     apply Exists.intro
                     refine ⟨fun wz hw _ => ?_, ?_⟩
                     · have hcz := hw.cells.1
                       go_simp
                       (with_reducible exact Rg.up_value)
                     simp only [Act.put, List.setIfInBounds_toArray, List.set_cons_zero, List.set_cons_succ])
                    (refine Rr.wr_y (by simp only [List.getElem?_toArray, List.getElem?_cons_succ, List.getElem?_cons_zero]; rfl) (by rfl) ?_
                     apply Exists.intro
                     refine ⟨fun wz hw _ => ?_, ?_⟩
                     · have hcz := hw.cells.1
                       go_simp
                       (with_reducible exact Rg.up_value)
                     simp only [Act.put, List.setIfInBounds_toArray, List.set_cons_zero, List.set_cons_succ])
                    (refine Rr.wr_y (by simp only [List.getElem?_toArray, List.getElem?_cons_succ, List.getElem?_cons_zero]; rfl) (by rfl) ?_
                     apply Exists.intro
                     refine ⟨fun wz hw _ => ?_, ?_⟩
                     · have hcz := hw.cells.1
                       go_simp
                       (with_reducible exact Rg.up_value)
                     simp only [Act.put, List.setIfInBounds_toArray, List.set_cons_zero, List.set_cons_succ])
                    (refine Rr.wr_y (by simp only [List.getElem?_toArray, List.getElem?_cons_succ, List.getElem?_cons_zero]; rfl) (by rfl) ?_
                     apply Exists.intro
                     refine ⟨fun wz hw _ => ?_, ?_⟩
                     · have hcz := hw.cells.1
                       go_simp
                       (with_reducible exact Rg.up_value)
                     simp only [Act.put, List.setIfInBounds_toArray, List.set_cons_zero, List.set_cons_succ])
                    (refine Rr.wr_y (by simp only [List.getElem?_toArray, List.getElem?_cons_succ, List.getElem?_cons_zero]; rfl) (by rfl) ?_
                     apply Exists.intro
                     refine ⟨fun wz hw _ => ?_, ?_⟩
                     · have hcz := hw.cells.1
                       go_simp
                       (with_reducible exact Rg.up_value)
                     simp only [Act.put, List.setIfInBounds_toArray, List.set_cons_zero, List.set_cons_succ])
                    (refine Rr.wr_y (by simp only [List.getElem?_toArray, List.getElem?_cons_succ, List.getElem?_cons_zero]; rfl) (by rfl) ?_
                     apply Exists.intro
                     refine ⟨fun wz hw _ => ?_, ?_⟩
                     · have hcz := hw.cells.1
                       go_simp
                       (with_reducible exact Rg.up_value)
                     simp only [Act.put, List.setIfInBounds_toArray, List.set_cons_zero, List.set_cons_succ])
                    (refine Rr.wr_y (by simp only [List.getElem?_toArray, List.getElem?_cons_succ, List.getElem?_cons_zero]; rfl) (by rfl) ?_
                     apply Exists.intro
                     refine ⟨fun wz hw _ => ?_, ?_⟩
                     · have hcz := hw.cells.1
                       go_simp
                       (with_reducible exact Rg.up_value)
                     simp only [Act.put, List.setIfInBounds_toArray, List.set_cons_zero, List.set_cons_succ])
                    (refine Rr.wr_y (by simp only [List.getElem?_toArray, List.getElem?_cons_succ, List.getElem?_cons_zero]; rfl) (by rfl) ?_
                     apply Exists.intro
                     refine ⟨fun wz hw _ => ?_, ?_⟩
                     · have hcz := hw.cells.1
                       go_simp
                       (with_reducible exact Rg.up_value)
                     simp only [Act.put, List.setIfInBounds_toArray, List.set_cons_zero, List.set_cons_succ])
                    (refine Rr.wr_y (by simp only [List.getElem?_toArray, List.getElem?_cons_succ, List.getElem?_cons_zero]; rfl) (by rfl) ?_
                     apply Exists.intro
                     refine ⟨fun wz hw _ => ?_, ?_⟩
                     · have hcz := hw.cells.1
                       go_simp
                       (with_reducible exact Rg.up_value)
                     simp only [Act.put, List.setIfInBounds_toArray, List.set_cons_zero, List.set_cons_succ])
                    (refine Rr.wr_y (by simp only [List.getElem?_toArray, List.getElem?_cons_succ, List.getElem?_cons_zero]; rfl) (by rfl) ?_
                     apply Exists.intro
                     refine ⟨fun wz hw _ => ?_, ?_⟩
                     · have hcz := hw.cells.1
                       go_simp
                       (with_reducible exact Rg.up_value)
                     simp only [Act.put, List.setIfInBounds_toArray, List.set_cons_zero, List.set_cons_succ])
                    (refine Rr.wr_y (by simp only [List.getElem?_toArray, List.getElem?_cons_succ, List.getElem?_cons_zero]; rfl) (by rfl) ?_
                     apply Exists.intro
                     refine ⟨fun wz hw _ => ?_, ?_⟩
                     · have hcz := hw.cells.1
                       go_simp
                       (with_reducible exact Rg.up_value)
                     simp only [Act.put, List.setIfInBounds_toArray, List.set_cons_zero, List.set_cons_succ])
                    (refine Rr.wr_y (by simp only [List.getElem?_toArray, List.getElem?_cons_succ, List.getElem?_cons_zero]; rfl) (by rfl) ?_
                     apply Exists.intro
                     refine ⟨fun wz hw _ => ?_, ?_⟩
                     · have hcz := hw.cells.1
                       go_simp
                       (with_reducible exact Rg.up_value)
                     simp only [Act.put, List.setIfInBounds_toArray, List.set_cons_zero, List.set_cons_succ])
                    (refine Rr.wr_y (by simp only [List.getElem?_toArray, List.getElem?_cons_succ, List.getElem?_cons_zero]; rfl) (by rfl) ?_
                     apply Exists.intro
                     refine ⟨fun wz hw _ => ?_, ?_⟩
                     · have hcz := hw.cells.1
                       go_simp
                       (with_reducible exact Rg.up_value)
                     simp only [Act.put, List.setIfInBounds_toArray, List.set_cons_zero, List.set_cons_succ])
                    (refine Rr.wr_y (by simp only [List.getElem?_toArray, List.getElem?_cons_succ, List.getElem?_cons_zero]; rfl) (by rfl) ?_
                     apply Exists.intro
                     refine ⟨fun wz hw _ => ?_, ?_⟩
                     · have hcz := hw.cells.1
                       go_simp
                       (with_reducible exact Rg.up_value)
                     simp only [Act.put, List.setIfInBounds_toArray, List.set_cons_zero, List.set_cons_succ])
                    (refine Rr.wr_y (by simp only [List.getElem?_toArray, List.getElem?_cons_succ, List.getElem?_cons_zero]; rfl) (by rfl) ?_
                     apply Exists.intro
                     refine ⟨fun wz hw _ => ?_, ?_⟩
                     · have hcz := hw.cells.1
                       go_simp
                       apply Rg.up_enter
                       (with_reducible refine (HT.out _).mono ?_)
                       rintro e w3 ⟨rfl, hb3⟩
                       exact ⟨rfl, hb3⟩
                     simp only [Act.put, List.setIfInBounds_toArray, List.set_cons_zero, List.set_cons_succ])
                    refine Rr.wr_nil ?_
                    intro wy hy2 hh
                    clear hh
                    simp only [List.length_cons, List.length_nil, List.drop_succ_cons, List.drop_zero, Nat.reduceAdd]
                    have HXY := Lib.hid (HX.out.trans hy2)
                    have HLY := Lib.hid (HLB.out.ext hy2)
                    obtain ⟨T, hT⟩ : ∃ T, T = 10 * (per : Int) + ((l.length : Int) - 1 - j) / 3 := ⟨_, rfl⟩
                    have T0 : 0 ≤ T := by omega
                    have T1 : T ≤ 10 * per + 9 := by omega
                    have HG : Hid (gA per mb ((qs.drop j).reverse.map (ph y)) = gadd (gA per mb ((qs.drop (j + 1)).reverse.map (ph y))) ⟨100 + (m + y) % 6, txtF xd⟩ per) := Lib.hid (by rw [List.drop_eq_getElem_cons (show j < qs.length by omega), List.reverse_cons, List.map_append, List.map_cons, List.map_nil, gA_snoc, HQJ.out]; rfl)
                    have HRY := Lib.hid ((HR.out.symm.ext hy2).ask2 ⟨100 + (m + y) % 6, txtF xd⟩ (10 * per + ((l.length : Int) - 1 - j) / 3) (okI_small (by simp only; omega)) (okI_small (by omega)))
                    rw [show ((j : Int) + 1).toNat = j + 1 from by omega] at HB
                    have hlen9 := gA_len per ((qs.drop (j + 1)).reverse.map (ph y)) mb
                    rw [List.length_map, List.length_reverse, List.length_drop, HM.out.len] at hlen9
                    have HAY := Lib.hid (HB.out.ask (q := ⟨100 + (m + y) % 6, txtF xd⟩) (t := 10 * per + ((l.length : Int) - 1 - j) / 3) (z := per) (by omega) (by omega) (by omega))
                    rw [← HG.out] at HAY
                    clear hy2 g1 g3 gl HX HLB HR HB HM1 HT HXL HQJ HG hT hlen9
                    go_upto_region 22 with (go_at_call 20; (with_reducible refine HRY.out.mono ?_); rintro e w4 ⟨rfl, hr4, hb4, hk4⟩)
                    go_wp2_with (fail)
                    exact ⟨⟨(j : Int) - 1, _, by simp, by omega, by omega, Lib.hid hr4.symm, Lib.hid (by rw [show ((j : Int) - 1 + 1).toNat = j from by omega]; exact HAY.out.mono (by omega)), Lib.hid (HLY.out.keep hk4 hn2), Lib.hid (Below.trans HXY.out (HP.out ▸ hb4))⟩, by simp [iof] <;> omega⟩
                  · obtain rfl : z = -1 := by omega
                    rw [show ((-1 : Int) + 1).toNat = 0 from rfl, List.drop_zero] at HB
                    have HB1 := Lib.hid (HB.out.mono (show 10 * (per : Int) + ((l.length : Int) - 1 - -1) / 3 ≤ 10 * (per : Int) + 10 by omega))
                    have HM1 := Lib.hid (HM.out.asked (z := per) (qs := qs) (fun q hq => by
                      rw [HQS.out] at hq
                      obtain ⟨x, -, rfl⟩ := List.mem_map.1 hq
                      exact ⟨Int.emod_nonneg _ (by decide), Int.emod_lt_of_pos _ (by decide)⟩))
                    have HA2 := Lib.hid (HA1.out.mono (show 10 * (per : Int) + 9 ≤ 10 * (per : Int) + 10 by omega))
                    have hlen9 := gA_len per qs ma
                    clear HB HM HLB HA1 HL1 HX1 HQS
                    generalize gA per ma qs = na at *
                    generalize gA per mb (qs.reverse.map (ph y)) = nb at *
                    obtain ⟨eo, ma2, mb2, oa, ob, bm2, len2⟩ := HA2.out.tick HB1.out HM1.out (Int.le_refl _)
                    have hm2 : ma2.length ≤ 20 * (per + 1) := by omega
                    have hla : (tickF ra (10 * (per : Int) + 10)).2.l.length = ma2.length := by rw [oa.l]
                    have hlb : (tickF rb (10 * (per : Int) + 10)).2.l.length = ma2.length := by rw [ob.l, bm2.len]
                    have hTK := HR.out.tick1 (10 * (per : Int) + 10) (okI_small (by omega))
                    have hTK2 := fun w' (h : R2 p1 w' p1 p2 (tickF ra (10 * (per : Int) + 10)).2 rb) => h.symm.tick1 (10 * (per : Int) + 10) (okI_small (by omega))
                    have hLE := fun ts (h : (tickF ra (10 * (per : Int) + 10)).1 = some ts) => tick_len h HR.out.len.1
                    have hlt := HR.out.lt
                    rw [← eo] at hTK2
                    obtain ⟨o, ho⟩ : ∃ o, o = (tickF ra (10 * (per : Int) + 10)).1 := ⟨_, rfl⟩
                    rw [← ho] at hTK hTK2 hLE
                    clear ho eo
                    have oa2 := oa.mono (show 10 * (per : Int) + 10 ≤ 10 * ((per + 1 : Nat) : Int) by omega)
                    have ob2 := ob.mono (show 10 * (per : Int) + 10 ≤ 10 * ((per + 1 : Nat) : Int) by omega)
                    generalize (tickF ra (10 * (per : Int) + 10)).2 = ra2 at *
                    generalize (tickF rb (10 * (per : Int) + 10)).2 = rb2 at *
                    have HTK := Lib.hid hTK; have HTK2 := Lib.hid hTK2; have HLE := Lib.hid hLE; have HLT := Lib.hid hlt
                    have HOA := Lib.hid oa2; have HOB := Lib.hid ob2; have HBM := Lib.hid bm2; have HLA := Lib.hid hla; have HLB := Lib.hid hlb
                    clear hTK hTK2 hLE hlt oa ob oa2 ob2 bm2 hla hlb HA2 HB1 HM1 HR hlen9 len2
                    go_wp2_with (first
                      | (go_at_call 16; (with_reducible refine HTK.out.mono ?_); rintro e w6 ⟨v6, rfl, hv6, hr6, hb6, hk6⟩; clear HTK)
                      | (go_at_call 16; (with_reducible refine (HTK2.out _ hr6).mono ?_); rintro e w7 ⟨v7, rfl, hv7, hr7, hb7, hk7⟩; have hSm := same_any v6 v7 o o w7 (hv6.k1 hk7 HLT.out.2.2.2) hv7 HLE.out HLE.out; rw [decide_eq_true rfl] at hSm; clear HTK2)
                      | (go_at_call 15; (with_reducible refine hSm.mono ?_); rintro e w8 ⟨rfl, hx8⟩; have hr8 := hr7.symm.ext hx8; have hw1 := hr8.wait1 _ HLA.out; have hw2 := fun w' (h : w8 = w') => (h ▸ hr8.symm.wait1 _ HLB.out : Calls Try.prog 22 #[.pointer (some ⟨p2, 0, none⟩)] w' fun e w'' => e = .returned (.int .i64 ma2.length) ∧ w'' = w'))
                      | (go_at_call 22; (with_reducible refine hw1.mono ?_); rintro e w9 ⟨rfl, hw9⟩; subst hw9; clear hw1)
                      | (go_at_call 22; (with_reducible refine (hw2 _ rfl).mono ?_); rintro e w9 ⟨rfl, hw9⟩; subst hw9; clear hw2))
                    have hx7 : Ext w1 w7 := Below.trans HX.out (Below.trans (HP.out ▸ hb6) (HP.out ▸ hb7))
                    exact ⟨⟨per + 1, ra2, rb2, ma2, mb2, by simp, by omega, hm2, Lib.hid hr8, HOA, HOB, HBM, Lib.hid (Below.trans hx7 (Below.mono hx8 hx7.size))⟩, by simp [iof]; omega⟩
          · have hi5 : ¬ (i : Int) < 20 := by omega
            have hi30 : i = 20 := by omega
            subst hi30
            by_cases hi6 : (20 : Int) < (ls.length : Int)
            · skip
              go_wp2_with (fail)
              go_loopw [14] (fun k wr => ∃ (j : Nat) (ra : Rl), k = .int .i64 j ∧ j ≤ l.length ∧ Hid (R2 p1 wr p1 p2 ra rb) ∧ Hid (Op need ra (gA per ma (qs.take j)) (10 * per + min (j : Int) 9)) ∧ Hid (LB n wr (.slice A l.length lc) l) ∧ Hid (Ext w1 wr)) (fun k _ => l.length - (iof k).toNat)
              case atStart => exact ⟨0, ra, rfl, by omega, HRX, Lib.hid (by rw [List.take_zero]; exact HA.out.mono (by omega)), HLB, HXX⟩
              case round =>
                obtain ⟨j, ra, rfl, hj, HR, HA, HLB, HX⟩ := hrel
                by_cases hjl : j < l.length
                · obtain ⟨g, rfl, gl, g1, g3⟩ := HLB.out.at j hjl
                  have ho := HOK.out l[j] (List.getElem_mem _)
                  have hqj : qs[j]'(by omega) = ⟨l[j].b % 6, txtF l[j].d⟩ := by simp only [HQS.out, List.getElem_map]; rfl
                  have HQJ := Lib.hid hqj
                  clear hqj
                  generalize l[j] = xx at *
                  obtain ⟨xa, xb, xc, xd⟩ := xx
                  simp only at g1 g3 HQJ
                  have ho1 : OkI xb := ho.1
                  have ho3 : OkI xd := ho.2
                  clear ho
                  obtain ⟨m, hm⟩ : ∃ m, m = xb % 6 := ⟨_, rfl⟩
                  have m0 : 0 ≤ m := by omega
                  have m1 : m < 6 := by omega
                  have HM1 := Lib.hid (fun w => mod_x xb 6 (by decide) (by decide) ho1 w)
                  rw [← hm] at HM1 HQJ
                  clear hm
                  have HT := Lib.hid (fun w => text_any xd w ho3)
                  have hjc : (j : Int) < (l.length : Int) := by omega
                  have HXL := Lib.hid HLB.out
                  go_upto_region 19 with (fail)
                  refine Rr.wp_region [(0, .y), (1, .y), (2, .y), (3, .y), (4, .y), (5, .y), (6, .y), (7, .y), (8, .y), (9, .y), (10, .y), (11, .y), (12, .y), (13, .y), (14, .y), (15, .y), (16, .y), (17, .y)] (fun _ => (.cells #[] 29, Rg.ptr)) (by kernel_rfl) (by kernel_rfl) ?_
                  (refine Rr.wr_y (by simp only [List.getElem?_toArray, List.getElem?_cons_succ, List.getElem?_cons_zero]; rfl) (by rfl) ?_
                   apply Exists.intro
                   refine ⟨fun wz hw _ => ?_, ?_⟩
                   · have hcz := hw.cells.1
                     go_simp
                     (with_reducible exact Rg.up_value)
                   simp only [Act.put, List.setIfInBounds_toArray, List.set_cons_zero, List.set_cons_succ])
                  (refine Rr.wr_y (by simp only [List.getElem?_toArray, List.getElem?_cons_succ, List.getElem?_cons_zero]; rfl) (by rfl) ?_
                   apply Exists.intro
                   refine ⟨fun wz hw _ => ?_, ?_⟩
                   · have hcz := hw.cells.1
                     go_simp
                     (with_reducible exact Rg.up_value)
                   simp only [Act.put, List.setIfInBounds_toArray, List.set_cons_zero, List.set_cons_succ])
                  (refine Rr.wr_y (by simp only [List.getElem?_toArray, List.getElem?_cons_succ, List.getElem?_cons_zero]; rfl) (by rfl) ?_
                   apply Exists.intro
                   refine ⟨fun wz hw _ => ?_, ?_⟩
                   · have hcz := hw.cells.1
                     go_simp
                     (with_reducible exact Rg.up_value)
                   simp only [Act.put, List.setIfInBounds_toArray, List.set_cons_zero, List.set_cons_succ])
                  (refine Rr.wr_y (by simp only [List.getElem?_toArray, List.getElem?_cons_succ, List.getElem?_cons_zero]; rfl) (by rfl) ?_
                   apply Exists.intro
                   refine ⟨fun wz hw _ => ?_, ?_⟩
                   · have hcz := hw.cells.1
                     go_simp
                     (with_reducible exact Rg.up_value)
                   simp only [Act.put, List.setIfInBounds_toArray, List.set_cons_zero, List.set_cons_succ])
                  (refine Rr.wr_y (by simp only [List.getElem?_toArray, List.getElem?_cons_succ, List.getElem?_cons_zero]; rfl) (by rfl) ?_
                   apply Exists.intro
                   refine ⟨fun wz hw _ => ?_, ?_⟩
                   · have hcz := hw.cells.1
                     go_simp
                     (with_reducible exact Rg.up_value)
                   simp only [Act.put, List.setIfInBounds_toArray, List.set_cons_zero, List.set_cons_succ])
                  (refine Rr.wr_y (by simp only [List.getElem?_toArray, List.getElem?_cons_succ, List.getElem?_cons_zero]; rfl) (by rfl) ?_
                   apply Exists.intro
                   refine ⟨fun wz hw _ => ?_, ?_⟩
                   · have hcz := hw.cells.1
                     go_simp
                     (with_reducible exact Rg.up_value)
                   simp only [Act.put, List.setIfInBounds_toArray, List.set_cons_zero, List.set_cons_succ])
                  (refine Rr.wr_y (by simp only [List.getElem?_toArray, List.getElem?_cons_succ, List.getElem?_cons_zero]; rfl) (by rfl) ?_
                   apply Exists.intro
                   refine ⟨fun wz hw _ => ?_, ?_⟩
                   · have hcz := hw.cells.1
                     go_simp
                     apply Rg.up_enter
                     (with_reducible refine (HM1.out _).mono ?_)
                     rintro e w3 ⟨rfl, hb3⟩
                     exact ⟨rfl, hb3⟩
                   simp only [Act.put, List.setIfInBounds_toArray, List.set_cons_zero, List.set_cons_succ])
                  (refine Rr.wr_y (by simp only [List.getElem?_toArray, List.getElem?_cons_succ, List.getElem?_cons_zero]; rfl) (by rfl) ?_
                   apply Exists.intro
                   refine ⟨fun wz hw _ => ?_, ?_⟩
                   · have hcz := hw.cells.1
                     go_simp
                     (with_reducible exact Rg.up_value)
                   simp only [Act.put, List.setIfInBounds_toArray, List.set_cons_zero, List.set_cons_succ])
                  (refine Rr.wr_y (by simp only [List.getElem?_toArray, List.getElem?_cons_succ, List.getElem?_cons_zero]; rfl) (by rfl) ?_
                   apply Exists.intro
                   refine ⟨fun wz hw _ => ?_, ?_⟩
                   · have hcz := hw.cells.1
                     go_simp
                     (with_reducible exact Rg.up_value)
                   simp only [Act.put, List.setIfInBounds_toArray, List.set_cons_zero, List.set_cons_succ])
                  (refine Rr.wr_y (by simp only [List.getElem?_toArray, List.getElem?_cons_succ, List.getElem?_cons_zero]; rfl) (by rfl) ?_
                   apply Exists.intro
                   refine ⟨fun wz hw _ => ?_, ?_⟩
                   · have hcz := hw.cells.1
                     go_simp
                     (with_reducible exact Rg.up_value)
                   simp only [Act.put, List.setIfInBounds_toArray, List.set_cons_zero, List.set_cons_succ])
                  (refine Rr.wr_y (by simp only [List.getElem?_toArray, List.getElem?_cons_succ, List.getElem?_cons_zero]; rfl) (by rfl) ?_
                   apply Exists.intro
                   refine ⟨fun wz hw _ => ?_, ?_⟩
                   · have hcz := hw.cells.1
                     go_simp
                     (with_reducible exact Rg.up_value)
                   simp only [Act.put, List.setIfInBounds_toArray, List.set_cons_zero, List.set_cons_succ])
                  (refine Rr.wr_y (by simp only [List.getElem?_toArray, List.getElem?_cons_succ, List.getElem?_cons_zero]; rfl) (by rfl) ?_
                   apply Exists.intro
                   refine ⟨fun wz hw _ => ?_, ?_⟩
                   · have hcz := hw.cells.1
                     go_simp
                     (with_reducible exact Rg.up_value)
                   simp only [Act.put, List.setIfInBounds_toArray, List.set_cons_zero, List.set_cons_succ])
                  (refine Rr.wr_y (by simp only [List.getElem?_toArray, List.getElem?_cons_succ, List.getElem?_cons_zero]; rfl) (by rfl) ?_
                   apply Exists.intro
                   refine ⟨fun wz hw _ => ?_, ?_⟩
                   · have hcz := hw.cells.1
                     go_simp
                     (with_reducible exact Rg.up_value)
                   simp only [Act.put, List.setIfInBounds_toArray, List.set_cons_zero, List.set_cons_succ])
                  (refine Rr.wr_y (by simp only [List.getElem?_toArray, List.getElem?_cons_succ, List.getElem?_cons_zero]; rfl) (by rfl) ?_
                   apply Exists.intro
                   refine ⟨fun wz hw _ => ?_, ?_⟩
                   · have hcz := hw.cells.1
                     go_simp
                     (with_reducible exact Rg.up_value)
                   simp only [Act.put, List.setIfInBounds_toArray, List.set_cons_zero, List.set_cons_succ])
                  (refine Rr.wr_y (by simp only [List.getElem?_toArray, List.getElem?_cons_succ, List.getElem?_cons_zero]; rfl) (by rfl) ?_
                   apply Exists.intro
                   refine ⟨fun wz hw _ => ?_, ?_⟩
                   · have hcz := hw.cells.1
                     go_simp
                     (with_reducible exact Rg.up_value)
                   simp only [Act.put, List.setIfInBounds_toArray, List.set_cons_zero, List.set_cons_succ])
                  (refine Rr.wr_y (by simp only [List.getElem?_toArray, List.getElem?_cons_succ, List.getElem?_cons_zero]; rfl) (by rfl) ?_
                   apply Exists.intro
                   refine ⟨fun wz hw _ => ?_, ?_⟩
                   · have hcz := hw.cells.1
                     go_simp
                     (with_reducible exact Rg.up_value)
                   simp only [Act.put, List.setIfInBounds_toArray, List.set_cons_zero, List.set_cons_succ])
                  (refine Rr.wr_y (by simp only [List.getElem?_toArray, List.getElem?_cons_succ, List.getElem?_cons_zero]; rfl) (by rfl) ?_
                   apply Exists.intro
                   refine ⟨fun wz hw _ => ?_, ?_⟩
                   · have hcz := hw.cells.1
                     go_simp
                     (with_reducible exact Rg.up_value)
                   simp only [Act.put, List.setIfInBounds_toArray, List.set_cons_zero, List.set_cons_succ])
                  (refine Rr.wr_y (by simp only [List.getElem?_toArray, List.getElem?_cons_succ, List.getElem?_cons_zero]; rfl) (by rfl) ?_
                   apply Exists.intro
                   refine ⟨fun wz hw _ => ?_, ?_⟩
                   · have hcz := hw.cells.1
                     go_simp
                     apply Rg.up_enter
                     (with_reducible refine (HT.out _).mono ?_)
                     rintro e w3 ⟨rfl, hb3⟩
                     exact ⟨rfl, hb3⟩
                   simp only [Act.put, List.setIfInBounds_toArray, List.set_cons_zero, List.set_cons_succ])
                  refine Rr.wr_nil ?_
                  intro wy hy hh
                  clear hh
                  simp only [List.length_cons, List.length_nil, List.drop_succ_cons, List.drop_zero, Nat.reduceAdd]
                  have HG : Hid (gA per ma (qs.take (j + 1)) = gadd (gA per ma (qs.take j)) ⟨m, txtF xd⟩ per) := Lib.hid (by rw [List.take_succ_eq_append_getElem (by omega), gA_snoc, HQJ.out])
                  have HXY := Lib.hid (HX.out.trans hy)
                  have HLY := Lib.hid (HLB.out.ext hy)
                  have HRY := Lib.hid ((HR.out.ext hy).ask2 ⟨m, txtF xd⟩ (10 * per + min (j : Int) 9) (okI_small (by simp only; omega)) (okI_small (by omega)))
                  have HAY := Lib.hid (HA.out.ask (q := ⟨m, txtF xd⟩) (t := 10 * per + min (j : Int) 9) (z := per) (by omega) (by have := gA_len per (qs.take j) ma; rw [List.length_take] at this; omega) (by omega))
                  rw [← HG.out] at HAY
                  clear hy g1 g3 gl HX HLB HR HA HM1 HT HXL HQJ HG
                  go_upto_region 18 with (go_at_call 20; (with_reducible refine HRY.out.mono ?_); rintro e w4 ⟨rfl, hr4, hb4, hk4⟩)
                  go_wp2_with (fail)
                  exact ⟨⟨j + 1, _, by simp, by omega, Lib.hid hr4, Lib.hid (HAY.out.mono (by omega)), Lib.hid (HLY.out.keep hk4 hn1), Lib.hid (Below.trans HXY.out (HP.out ▸ hb4))⟩, by simp [iof]; omega⟩
                · obtain rfl : j = l.length := by omega
                  rw [← hql, List.take_length] at HA
                  have HA1 := Lib.hid (HA.out.mono (show _ ≤ 10 * (per : Int) + 9 by omega))
                  have HR1 := HR; have HL1 := HLB; have HX1 := HX
                  clear HA HR HLB HX HRX HXX
                  go_wp2_with (fail)
                  go_loopw [15] (fun k wr => ∃ (z : Int) (rb : Rl), k = .int .i64 z ∧ -1 ≤ z ∧ z < l.length ∧ Hid (R2 p1 wr p1 p2 ra rb) ∧ Hid (Op need rb (gA per mb ((qs.drop (z + 1).toNat).reverse.map (ph y))) (10 * per + (l.length - 1 - z) / 3)) ∧ Hid (LB n wr (.slice A l.length lc) l) ∧ Hid (Ext w1 wr)) (fun k _ => (iof k + 1).toNat)
                  case atStart => exact ⟨_, rb, rfl, by omega, by omega, HR1, Lib.hid (by rw [List.drop_eq_nil_of_le (by omega)]; exact HB.out.mono (by omega)), HL1, HX1⟩
                  case round =>
                    obtain ⟨z, rb, rfl, hz1, hz2, HR, HB, HLB, HX⟩ := hrel
                    by_cases hz0 : 0 ≤ z
                    · obtain ⟨j, rfl⟩ := Int.eq_ofNat_of_zero_le hz0
                      have hjl : j < l.length := by omega
                      obtain ⟨g, rfl, gl, g1, g3⟩ := HLB.out.at j hjl
                      have ho := HOK.out l[j] (List.getElem_mem _)
                      have hqj : qs[j]'(by omega) = ⟨l[j].b % 6, txtF l[j].d⟩ := by simp only [HQS.out, List.getElem_map]; rfl
                      have HQJ := Lib.hid hqj
                      clear hqj
                      generalize l[j] = xx at *
                      obtain ⟨xa, xb, xc, xd⟩ := xx
                      simp only at g1 g3 HQJ
                      have ho1 : OkI xb := ho.1
                      have ho3 : OkI xd := ho.2
                      clear ho
                      obtain ⟨m, hm⟩ : ∃ m, m = xb % 6 := ⟨_, rfl⟩
                      have m0 : 0 ≤ m := by omega
                      have m1 : m < 6 := by omega
                      have HM1 := Lib.hid (fun w => mod_x xb 6 (by decide) (by decide) ho1 w)
                      rw [← hm] at HM1 HQJ
                      clear hm
                      have HT := Lib.hid (fun w => text_any xd w ho3)
                      have hjc : (j : Int) < (l.length : Int) := by omega
                      have hmy : 0 ≤ m + y := by omega
                      have hlj : 0 ≤ (l.length : Int) - 1 - j := by omega
                      have HXL := Lib.hid HLB.out
                      go_upto_region 23 with (fail)
                      refine Rr.wp_region [(0, .y), (1, .y), (2, .y), (3, .y), (4, .y), (5, .y), (6, .y), (7, .y), (8, .y), (9, .y), (10, .y), (11, .y), (12, .y), (13, .y), (14, .y), (15, .y), (16, .y), (17, .y), (18, .y), (19, .y), (20, .y), (21, .y), (22, .y), (23, .y), (24, .y), (25, .y), (26, .y)] (fun _ => (.cells #[] 29, Rg.ptr)) (by kernel_rfl) (by kernel_rfl) ?_
                      (refine Rr.wr_y (by simp only [List.getElem?_toArray, List.getElem?_cons_succ, List.getElem?_cons_zero]; rfl) (by rfl) ?_
                       apply Exists.intro
                       refine ⟨fun wz hw _ => ?_, ?_⟩
                       · have hcz := hw.cells.1
                         go_simp
                         (with_reducible exact Rg.up_value)
                       simp only [Act.put, List.setIfInBounds_toArray, List.set_cons_zero, List.set_cons_succ])
                      (refine Rr.wr_y (by simp only [List.getElem?_toArray, List.getElem?_cons_succ, List.getElem?_cons_zero]; rfl) (by rfl) ?_
                       apply Exists.intro
                       refine ⟨fun wz hw _ => ?_, ?_⟩
                       · have hcz := hw.cells.1
                         go_simp
                         (with_reducible exact Rg.up_value)
                       simp only [Act.put, List.setIfInBounds_toArray, List.set_cons_zero, List.set_cons_succ])
                      (refine Rr.wr_y (by simp only [List.getElem?_toArray, List.getElem?_cons_succ, List.getElem?_cons_zero]; rfl) (by rfl) ?_
                       apply Exists.intro
                       refine ⟨fun wz hw _ => ?_, ?_⟩
                       · have hcz := hw.cells.1
                         go_simp
                         (with_reducible exact Rg.up_value)
                       simp only [Act.put, List.setIfInBounds_toArray, List.set_cons_zero, List.set_cons_succ])
                      (refine Rr.wr_y (by simp only [List.getElem?_toArray, List.getElem?_cons_succ, List.getElem?_cons_zero]; rfl) (by rfl) ?_
                       apply Exists.intro
                       refine ⟨fun wz hw _ => ?_, ?_⟩
                       · have hcz := hw.cells.1
                         go_simp
                         (with_reducible exact Rg.up_value)
                       simp only [Act.put, List.setIfInBounds_toArray, List.set_cons_zero, List.set_cons_succ])
                      (refine Rr.wr_y (by simp only [List.getElem?_toArray, List.getElem?_cons_succ, List.getElem?_cons_zero]; rfl) (by rfl) ?_
                       apply Exists.intro
                       refine ⟨fun wz hw _ => ?_, ?_⟩
                       · have hcz := hw.cells.1
                         go_simp
                         (with_reducible exact Rg.up_value)
                       simp only [Act.put, List.setIfInBounds_toArray, List.set_cons_zero, List.set_cons_succ])
                      (refine Rr.wr_y (by simp only [List.getElem?_toArray, List.getElem?_cons_succ, List.getElem?_cons_zero]; rfl) (by rfl) ?_
                       apply Exists.intro
                       refine ⟨fun wz hw _ => ?_, ?_⟩
                       · have hcz := hw.cells.1
                         go_simp
                         (with_reducible exact Rg.up_value)
                       simp only [Act.put, List.setIfInBounds_toArray, List.set_cons_zero, List.set_cons_succ])
                      (refine Rr.wr_y (by simp only [List.getElem?_toArray, List.getElem?_cons_succ, List.getElem?_cons_zero]; rfl) (by rfl) ?_
                       apply Exists.intro
                       refine ⟨fun wz hw _ => ?_, ?_⟩
                       · have hcz := hw.cells.1
                         go_simp
                         apply Rg.up_enter
                         (with_reducible refine (HM1.out _).mono ?_)
                         rintro e w3 ⟨rfl, hb3⟩
                         exact ⟨rfl, hb3⟩
                       simp only [Act.put, List.setIfInBounds_toArray, List.set_cons_zero, List.set_cons_succ])
                      (refine Rr.wr_y (by simp only [List.getElem?_toArray, List.getElem?_cons_succ, List.getElem?_cons_zero]; rfl) (by rfl) ?_
                       apply Exists.intro
                       refine ⟨fun wz hw _ => ?_, ?_⟩
                       · have hcz := hw.cells.1
                         go_simp
                         (with_reducible exact Rg.up_value)
                       simp only [Act.put, List.setIfInBounds_toArray, List.set_cons_zero, List.set_cons_succ])
                      (refine Rr.wr_y (by simp only [List.getElem?_toArray, List.getElem?_cons_succ, List.getElem?_cons_zero]; rfl) (by rfl) ?_
                       apply Exists.intro
                       refine ⟨fun wz hw _ => ?_, ?_⟩
                       · have hcz := hw.cells.1
                         go_simp
                         (with_reducible exact Rg.up_value)
                       simp only [Act.put, List.setIfInBounds_toArray, List.set_cons_zero, List.set_cons_succ])
                      (refine Rr.wr_y (by simp only [List.getElem?_toArray, List.getElem?_cons_succ, List.getElem?_cons_zero]; rfl) (by rfl) ?_
                       apply Exists.intro
                       refine ⟨fun wz hw _ => ?_, ?_⟩
                       · have hcz := hw.cells.1
                         go_simp
                         (with_reducible exact Rg.up_value)
                       simp only [Act.put, List.setIfInBounds_toArray, List.set_cons_zero, List.set_cons_succ])
                      (refine Rr.wr_y (by simp only [List.getElem?_toArray, List.getElem?_cons_succ, List.getElem?_cons_zero]; rfl) (by rfl) ?_
                       apply Exists.intro
                       refine ⟨fun wz hw _ => ?_, ?_⟩
                       · have hcz := hw.cells.1
                         go_simp
                         (with_reducible exact Rg.up_value)
                       simp only [Act.put, List.setIfInBounds_toArray, List.set_cons_zero, List.set_cons_succ])
                      (refine Rr.wr_y (by simp only [List.getElem?_toArray, List.getElem?_cons_succ, List.getElem?_cons_zero]; rfl) (by rfl) ?_
                       apply Exists.intro
                       refine ⟨fun wz hw _ => ?_, ?_⟩
                       · have hcz := hw.cells.1
                         go_simp
                         (with_reducible exact Rg.up_value)
                       simp only [Act.put, List.setIfInBounds_toArray, List.set_cons_zero, List.set_cons_succ])
                      (refine Rr.wr_y (by simp only [List.getElem?_toArray, List.getElem?_cons_succ, List.getElem?_cons_zero]; rfl) (by rfl) ?_
                       apply Exists.intro
                       refine ⟨fun wz hw _ => ?_, ?_⟩
                       · have hcz := hw.cells.1
                         go_simp
                         (with_reducible exact Rg.up_value)
                       simp only [Act.put, List.setIfInBounds_toArray, List.set_cons_zero, List.set_cons_succ])
                      (refine Rr.wr_y (by simp only [List.getElem?_toArray, List.getElem?_cons_succ, List.getElem?_cons_zero]; rfl) (by rfl) ?_
                       apply Exists.intro
                       refine ⟨fun wz hw _ => ?_, ?_⟩
                       · have hcz := hw.cells.1
                         go_simp
                         (with_reducible exact Rg.up_value)
                       simp only [Act.put, List.setIfInBounds_toArray, List.set_cons_zero, List.set_cons_succ])
                      (refine Rr.wr_y (by simp only [List.getElem?_toArray, List.getElem?_cons_succ, List.getElem?_cons_zero]; rfl) (by rfl) ?_
                       apply Exists.intro
                       refine ⟨fun wz hw _ => ?_, ?_⟩
                       · have hcz := hw.cells.1
                         go_simp
                         (with_reducible exact Rg.up_value)
                       simp only [Act.put, List.setIfInBounds_toArray, List.set_cons_zero, List.set_cons_succ])
                      (refine Rr.wr_y (by simp only [List.getElem?_toArray, List.getElem?_cons_succ, List.getElem?_cons_zero]; rfl) (by rfl) ?_
                       apply Exists.intro
                       refine ⟨fun wz hw _ => ?_, ?_⟩
                       · have hcz := hw.cells.1
                         go_simp
                         (with_reducible exact Rg.up_value)
                       simp only [Act.put, List.setIfInBounds_toArray, List.set_cons_zero, List.set_cons_succ])
                      (refine Rr.wr_y (by simp only [List.getElem?_toArray, List.getElem?_cons_succ, List.getElem?_cons_zero]; rfl) (by rfl) ?_
                       apply Exists.intro
                       refine ⟨fun wz hw _ => ?_, ?_⟩
                       · have hcz := hw.cells.1
                         go_simp
                         (with_reducible exact Rg.up_value)
                       simp only [Act.put, List.setIfInBounds_toArray, List.set_cons_zero, List.set_cons_succ])
                      (refine Rr.wr_y (by simp only [List.getElem?_toArray, List.getElem?_cons_succ, List.getElem?_cons_zero]; rfl) (by rfl) ?_
                       apply Exists.intro
                       refine ⟨fun wz hw _ => ?_, ?_⟩
                       · have hcz := hw.cells.1
                         go_simp
                         (with_reducible exact Rg.up_value)
                       simp only [Act.put, List.setIfInBounds_toArray, List.set_cons_zero, List.set_cons_succ])
                      (refine Rr.wr_y (by simp only [List.getElem?_toArray, List.getElem?_cons_succ, List.getElem?_cons_zero]; rfl) (by rfl) ?_
                       apply Exists.intro
                       refine ⟨fun wz hw _ => ?_, ?_⟩
                       · have hcz := hw.cells.1
                         go_simp
                         (with_reducible exact Rg.up_value)
                       simp only [Act.put, List.setIfInBounds_toArray, List.set_cons_zero, List.set_cons_succ])
                      (refine Rr.wr_y (by simp only [List.getElem?_toArray, List.getElem?_cons_succ, List.getElem?_cons_zero]; rfl) (by rfl) ?_
                       apply Exists.intro
                       refine ⟨fun wz hw _ => ?_, ?_⟩
                       · have hcz := hw.cells.1
                         go_simp
                         (with_reducible exact Rg.up_value)
                       simp only [Act.put, List.setIfInBounds_toArray, List.set_cons_zero, List.set_cons_succ])
                      (refine Rr.wr_y (by simp only [List.getElem?_toArray, List.getElem?_cons_succ, List.getElem?_cons_zero]; rfl) (by rfl) ?_
                       apply Exists.intro
                       refine ⟨fun wz hw _ => ?_, ?_⟩
                       · have hcz := hw.cells.1
                         go_simp
                         (with_reducible exact Rg.up_value)
                       simp only [Act.put, List.setIfInBounds_toArray, List.set_cons_zero, List.set_cons_succ])
                      (refine Rr.wr_y (by simp only [List.getElem?_toArray, List.getElem?_cons_succ, List.getElem?_cons_zero]; rfl) (by rfl) ?_
                       apply Exists.intro
                       refine ⟨fun wz hw _ => ?_, ?_⟩
                       · have hcz := hw.cells.1
                         go_simp
                         (with_reducible exact Rg.up_value)
                       simp only [Act.put, List.setIfInBounds_toArray, List.set_cons_zero, List.set_cons_succ])
                      (refine Rr.wr_y (by simp only [List.getElem?_toArray, List.getElem?_cons_succ, List.getElem?_cons_zero]; rfl) (by rfl) ?_
                       apply Exists.intro
                       refine ⟨fun wz hw _ => ?_, ?_⟩
                       · have hcz := hw.cells.1
                         go_simp
                         (with_reducible exact Rg.up_value)
                       simp only [Act.put, List.setIfInBounds_toArray, List.set_cons_zero, List.set_cons_succ])
                      (refine Rr.wr_y (by simp only [List.getElem?_toArray, List.getElem?_cons_succ, List.getElem?_cons_zero]; rfl) (by rfl) ?_
                       apply Exists.intro
                       refine ⟨fun wz hw _ => ?_, ?_⟩
                       · have hcz := hw.cells.1
                         go_simp
                         (with_reducible exact Rg.up_value)
                       simp only [Act.put, List.setIfInBounds_toArray, List.set_cons_zero, List.set_cons_succ])
                      (refine Rr.wr_y (by simp only [List.getElem?_toArray, List.getElem?_cons_succ, List.getElem?_cons_zero]; rfl) (by rfl) ?_
                       apply Exists.intro
                       refine ⟨fun wz hw _ => ?_, ?_⟩
                       · have hcz := hw.cells.1
                         go_simp
                         (with_reducible exact Rg.up_value)
                       simp only [Act.put, List.setIfInBounds_toArray, List.set_cons_zero, List.set_cons_succ])
                      (refine Rr.wr_y (by simp only [List.getElem?_toArray, List.getElem?_cons_succ, List.getElem?_cons_zero]; rfl) (by rfl) ?_
                       apply Exists.intro
                       refine ⟨fun wz hw _ => ?_, ?_⟩
                       · have hcz := hw.cells.1
                         go_simp
                         (with_reducible exact Rg.up_value)
                       simp only [Act.put, List.setIfInBounds_toArray, List.set_cons_zero, List.set_cons_succ])
                      (refine Rr.wr_y (by simp only [List.getElem?_toArray, List.getElem?_cons_succ, List.getElem?_cons_zero]; rfl) (by rfl) ?_
                       apply Exists.intro
                       refine ⟨fun wz hw _ => ?_, ?_⟩
                       · have hcz := hw.cells.1
                         go_simp
                         apply Rg.up_enter
                         (with_reducible refine (HT.out _).mono ?_)
                         rintro e w3 ⟨rfl, hb3⟩
                         exact ⟨rfl, hb3⟩
                       simp only [Act.put, List.setIfInBounds_toArray, List.set_cons_zero, List.set_cons_succ])
                      refine Rr.wr_nil ?_
                      intro wy hy2 hh
                      clear hh
                      simp only [List.length_cons, List.length_nil, List.drop_succ_cons, List.drop_zero, Nat.reduceAdd]
                      have HXY := Lib.hid (HX.out.trans hy2)
                      have HLY := Lib.hid (HLB.out.ext hy2)
                      obtain ⟨T, hT⟩ : ∃ T, T = 10 * (per : Int) + ((l.length : Int) - 1 - j) / 3 := ⟨_, rfl⟩
                      have T0 : 0 ≤ T := by omega
                      have T1 : T ≤ 10 * per + 9 := by omega
                      have HG : Hid (gA per mb ((qs.drop j).reverse.map (ph y)) = gadd (gA per mb ((qs.drop (j + 1)).reverse.map (ph y))) ⟨100 + (m + y) % 6, txtF xd⟩ per) := Lib.hid (by rw [List.drop_eq_getElem_cons (show j < qs.length by omega), List.reverse_cons, List.map_append, List.map_cons, List.map_nil, gA_snoc, HQJ.out]; rfl)
                      have HRY := Lib.hid ((HR.out.symm.ext hy2).ask2 ⟨100 + (m + y) % 6, txtF xd⟩ (10 * per + ((l.length : Int) - 1 - j) / 3) (okI_small (by simp only; omega)) (okI_small (by omega)))
                      rw [show ((j : Int) + 1).toNat = j + 1 from by omega] at HB
                      have hlen9 := gA_len per ((qs.drop (j + 1)).reverse.map (ph y)) mb
                      rw [List.length_map, List.length_reverse, List.length_drop, HM.out.len] at hlen9
                      have HAY := Lib.hid (HB.out.ask (q := ⟨100 + (m + y) % 6, txtF xd⟩) (t := 10 * per + ((l.length : Int) - 1 - j) / 3) (z := per) (by omega) (by omega) (by omega))
                      rw [← HG.out] at HAY
                      clear hy2 g1 g3 gl HX HLB HR HB HM1 HT HXL HQJ HG hT hlen9
                      go_upto_region 22 with (go_at_call 20; (with_reducible refine HRY.out.mono ?_); rintro e w4 ⟨rfl, hr4, hb4, hk4⟩)
                      go_wp2_with (fail)
                      exact ⟨⟨(j : Int) - 1, _, by simp, by omega, by omega, Lib.hid hr4.symm, Lib.hid (by rw [show ((j : Int) - 1 + 1).toNat = j from by omega]; exact HAY.out.mono (by omega)), Lib.hid (HLY.out.keep hk4 hn2), Lib.hid (Below.trans HXY.out (HP.out ▸ hb4))⟩, by simp [iof] <;> omega⟩
                    · obtain rfl : z = -1 := by omega
                      rw [show ((-1 : Int) + 1).toNat = 0 from rfl, List.drop_zero] at HB
                      have HB1 := Lib.hid (HB.out.mono (show 10 * (per : Int) + ((l.length : Int) - 1 - -1) / 3 ≤ 10 * (per : Int) + 10 by omega))
                      have HM1 := Lib.hid (HM.out.asked (z := per) (qs := qs) (fun q hq => by
                        rw [HQS.out] at hq
                        obtain ⟨x, -, rfl⟩ := List.mem_map.1 hq
                        exact ⟨Int.emod_nonneg _ (by decide), Int.emod_lt_of_pos _ (by decide)⟩))
                      have HA2 := Lib.hid (HA1.out.mono (show 10 * (per : Int) + 9 ≤ 10 * (per : Int) + 10 by omega))
                      have hlen9 := gA_len per qs ma
                      clear HB HM HLB HA1 HL1 HX1 HQS
                      generalize gA per ma qs = na at *
                      generalize gA per mb (qs.reverse.map (ph y)) = nb at *
                      obtain ⟨eo, ma2, mb2, oa, ob, bm2, len2⟩ := HA2.out.tick HB1.out HM1.out (Int.le_refl _)
                      have hm2 : ma2.length ≤ 20 * (per + 1) := by omega
                      have hla : (tickF ra (10 * (per : Int) + 10)).2.l.length = ma2.length := by rw [oa.l]
                      have hlb : (tickF rb (10 * (per : Int) + 10)).2.l.length = ma2.length := by rw [ob.l, bm2.len]
                      have hTK := HR.out.tick1 (10 * (per : Int) + 10) (okI_small (by omega))
                      have hTK2 := fun w' (h : R2 p1 w' p1 p2 (tickF ra (10 * (per : Int) + 10)).2 rb) => h.symm.tick1 (10 * (per : Int) + 10) (okI_small (by omega))
                      have hLE := fun ts (h : (tickF ra (10 * (per : Int) + 10)).1 = some ts) => tick_len h HR.out.len.1
                      have hlt := HR.out.lt
                      rw [← eo] at hTK2
                      obtain ⟨o, ho⟩ : ∃ o, o = (tickF ra (10 * (per : Int) + 10)).1 := ⟨_, rfl⟩
                      rw [← ho] at hTK hTK2 hLE
                      clear ho eo
                      have oa2 := oa.mono (show 10 * (per : Int) + 10 ≤ 10 * ((per + 1 : Nat) : Int) by omega)
                      have ob2 := ob.mono (show 10 * (per : Int) + 10 ≤ 10 * ((per + 1 : Nat) : Int) by omega)
                      generalize (tickF ra (10 * (per : Int) + 10)).2 = ra2 at *
                      generalize (tickF rb (10 * (per : Int) + 10)).2 = rb2 at *
                      have HTK := Lib.hid hTK; have HTK2 := Lib.hid hTK2; have HLE := Lib.hid hLE; have HLT := Lib.hid hlt
                      have HOA := Lib.hid oa2; have HOB := Lib.hid ob2; have HBM := Lib.hid bm2; have HLA := Lib.hid hla; have HLB := Lib.hid hlb
                      clear hTK hTK2 hLE hlt oa ob oa2 ob2 bm2 hla hlb HA2 HB1 HM1 HR hlen9 len2
                      go_wp2_with (first
                        | (go_at_call 16; (with_reducible refine HTK.out.mono ?_); rintro e w6 ⟨v6, rfl, hv6, hr6, hb6, hk6⟩; clear HTK)
                        | (go_at_call 16; (with_reducible refine (HTK2.out _ hr6).mono ?_); rintro e w7 ⟨v7, rfl, hv7, hr7, hb7, hk7⟩; have hSm := same_any v6 v7 o o w7 (hv6.k1 hk7 HLT.out.2.2.2) hv7 HLE.out HLE.out; rw [decide_eq_true rfl] at hSm; clear HTK2)
                        | (go_at_call 15; (with_reducible refine hSm.mono ?_); rintro e w8 ⟨rfl, hx8⟩; have hr8 := hr7.symm.ext hx8; have hw1 := hr8.wait1 _ HLA.out; have hw2 := fun w' (h : w8 = w') => (h ▸ hr8.symm.wait1 _ HLB.out : Calls Try.prog 22 #[.pointer (some ⟨p2, 0, none⟩)] w' fun e w'' => e = .returned (.int .i64 ma2.length) ∧ w'' = w'))
                        | (go_at_call 22; (with_reducible refine hw1.mono ?_); rintro e w9 ⟨rfl, hw9⟩; subst hw9; clear hw1)
                        | (go_at_call 22; (with_reducible refine (hw2 _ rfl).mono ?_); rintro e w9 ⟨rfl, hw9⟩; subst hw9; clear hw2))
                      have hx7 : Ext w1 w7 := Below.trans HX.out (Below.trans (HP.out ▸ hb6) (HP.out ▸ hb7))
                      exact ⟨⟨per + 1, ra2, rb2, ma2, mb2, by simp, by omega, hm2, Lib.hid hr8, HOA, HOB, HBM, Lib.hid (Below.trans hx7 (Below.mono hx8 hx7.size))⟩, by simp [iof]; omega⟩
            · skip
              go_wp2_with (fail)
              go_loopw [14] (fun k wr => ∃ (j : Nat) (ra : Rl), k = .int .i64 j ∧ j ≤ l.length ∧ Hid (R2 p1 wr p1 p2 ra rb) ∧ Hid (Op need ra (gA per ma (qs.take j)) (10 * per + min (j : Int) 9)) ∧ Hid (LB n wr (.slice A l.length lc) l) ∧ Hid (Ext w1 wr)) (fun k _ => l.length - (iof k).toNat)
              case atStart => exact ⟨0, ra, rfl, by omega, HRX, Lib.hid (by rw [List.take_zero]; exact HA.out.mono (by omega)), HLB, HXX⟩
              case round =>
                obtain ⟨j, ra, rfl, hj, HR, HA, HLB, HX⟩ := hrel
                by_cases hjl : j < l.length
                · obtain ⟨g, rfl, gl, g1, g3⟩ := HLB.out.at j hjl
                  have ho := HOK.out l[j] (List.getElem_mem _)
                  have hqj : qs[j]'(by omega) = ⟨l[j].b % 6, txtF l[j].d⟩ := by simp only [HQS.out, List.getElem_map]; rfl
                  have HQJ := Lib.hid hqj
                  clear hqj
                  generalize l[j] = xx at *
                  obtain ⟨xa, xb, xc, xd⟩ := xx
                  simp only at g1 g3 HQJ
                  have ho1 : OkI xb := ho.1
                  have ho3 : OkI xd := ho.2
                  clear ho
                  obtain ⟨m, hm⟩ : ∃ m, m = xb % 6 := ⟨_, rfl⟩
                  have m0 : 0 ≤ m := by omega
                  have m1 : m < 6 := by omega
                  have HM1 := Lib.hid (fun w => mod_x xb 6 (by decide) (by decide) ho1 w)
                  rw [← hm] at HM1 HQJ
                  clear hm
                  have HT := Lib.hid (fun w => text_any xd w ho3)
                  have hjc : (j : Int) < (l.length : Int) := by omega
                  have HXL := Lib.hid HLB.out
                  go_upto_region 19 with (fail)
                  refine Rr.wp_region [(0, .y), (1, .y), (2, .y), (3, .y), (4, .y), (5, .y), (6, .y), (7, .y), (8, .y), (9, .y), (10, .y), (11, .y), (12, .y), (13, .y), (14, .y), (15, .y), (16, .y), (17, .y)] (fun _ => (.cells #[] 29, Rg.ptr)) (by kernel_rfl) (by kernel_rfl) ?_
                  (refine Rr.wr_y (by simp only [List.getElem?_toArray, List.getElem?_cons_succ, List.getElem?_cons_zero]; rfl) (by rfl) ?_
                   apply Exists.intro
                   refine ⟨fun wz hw _ => ?_, ?_⟩
                   · have hcz := hw.cells.1
                     go_simp
                     (with_reducible exact Rg.up_value)
                   simp only [Act.put, List.setIfInBounds_toArray, List.set_cons_zero, List.set_cons_succ])
                  (refine Rr.wr_y (by simp only [List.getElem?_toArray, List.getElem?_cons_succ, List.getElem?_cons_zero]; rfl) (by rfl) ?_
                   apply Exists.intro
                   refine ⟨fun wz hw _ => ?_, ?_⟩
                   · have hcz := hw.cells.1
                     go_simp
                     (with_reducible exact Rg.up_value)
                   simp only [Act.put, List.setIfInBounds_toArray, List.set_cons_zero, List.set_cons_succ])
                  (refine Rr.wr_y (by simp only [List.getElem?_toArray, List.getElem?_cons_succ, List.getElem?_cons_zero]; rfl) (by rfl) ?_
                   apply Exists.intro
                   refine ⟨fun wz hw _ => ?_, ?_⟩
                   · have hcz := hw.cells.1
                     go_simp
                     (with_reducible exact Rg.up_value)
                   simp only [Act.put, List.setIfInBounds_toArray, List.set_cons_zero, List.set_cons_succ])
                  (refine Rr.wr_y (by simp only [List.getElem?_toArray, List.getElem?_cons_succ, List.getElem?_cons_zero]; rfl) (by rfl) ?_
                   apply Exists.intro
                   refine ⟨fun wz hw _ => ?_, ?_⟩
                   · have hcz := hw.cells.1
                     go_simp
                     (with_reducible exact Rg.up_value)
                   simp only [Act.put, List.setIfInBounds_toArray, List.set_cons_zero, List.set_cons_succ])
                  (refine Rr.wr_y (by simp only [List.getElem?_toArray, List.getElem?_cons_succ, List.getElem?_cons_zero]; rfl) (by rfl) ?_
                   apply Exists.intro
                   refine ⟨fun wz hw _ => ?_, ?_⟩
                   · have hcz := hw.cells.1
                     go_simp
                     (with_reducible exact Rg.up_value)
                   simp only [Act.put, List.setIfInBounds_toArray, List.set_cons_zero, List.set_cons_succ])
                  (refine Rr.wr_y (by simp only [List.getElem?_toArray, List.getElem?_cons_succ, List.getElem?_cons_zero]; rfl) (by rfl) ?_
                   apply Exists.intro
                   refine ⟨fun wz hw _ => ?_, ?_⟩
                   · have hcz := hw.cells.1
                     go_simp
                     (with_reducible exact Rg.up_value)
                   simp only [Act.put, List.setIfInBounds_toArray, List.set_cons_zero, List.set_cons_succ])
                  (refine Rr.wr_y (by simp only [List.getElem?_toArray, List.getElem?_cons_succ, List.getElem?_cons_zero]; rfl) (by rfl) ?_
                   apply Exists.intro
                   refine ⟨fun wz hw _ => ?_, ?_⟩
                   · have hcz := hw.cells.1
                     go_simp
                     apply Rg.up_enter
                     (with_reducible refine (HM1.out _).mono ?_)
                     rintro e w3 ⟨rfl, hb3⟩
                     exact ⟨rfl, hb3⟩
                   simp only [Act.put, List.setIfInBounds_toArray, List.set_cons_zero, List.set_cons_succ])
                  (refine Rr.wr_y (by simp only [List.getElem?_toArray, List.getElem?_cons_succ, List.getElem?_cons_zero]; rfl) (by rfl) ?_
                   apply Exists.intro
                   refine ⟨fun wz hw _ => ?_, ?_⟩
                   · have hcz := hw.cells.1
                     go_simp
                     (with_reducible exact Rg.up_value)
                   simp only [Act.put, List.setIfInBounds_toArray, List.set_cons_zero, List.set_cons_succ])
                  (refine Rr.wr_y (by simp only [List.getElem?_toArray, List.getElem?_cons_succ, List.getElem?_cons_zero]; rfl) (by rfl) ?_
                   apply Exists.intro
                   refine ⟨fun wz hw _ => ?_, ?_⟩
                   · have hcz := hw.cells.1
                     go_simp
                     (with_reducible exact Rg.up_value)
                   simp only [Act.put, List.setIfInBounds_toArray, List.set_cons_zero, List.set_cons_succ])
                  (refine Rr.wr_y (by simp only [List.getElem?_toArray, List.getElem?_cons_succ, List.getElem?_cons_zero]; rfl) (by rfl) ?_
                   apply Exists.intro
                   refine ⟨fun wz hw _ => ?_, ?_⟩
                   · have hcz := hw.cells.1
                     go_simp
                     (with_reducible exact Rg.up_value)
                   simp only [Act.put, List.setIfInBounds_toArray, List.set_cons_zero, List.set_cons_succ])
                  (refine Rr.wr_y (by simp only [List.getElem?_toArray, List.getElem?_cons_succ, List.getElem?_cons_zero]; rfl) (by rfl) ?_
                   apply Exists.intro
                   refine ⟨fun wz hw _ => ?_, ?_⟩
                   · have hcz := hw.cells.1
                     go_simp
                     (with_reducible exact Rg.up_value)
                   simp only [Act.put, List.setIfInBounds_toArray, List.set_cons_zero, List.set_cons_succ])
                  (refine Rr.wr_y (by simp only [List.getElem?_toArray, List.getElem?_cons_succ, List.getElem?_cons_zero]; rfl) (by rfl) ?_
                   apply Exists.intro
                   refine ⟨fun wz hw _ => ?_, ?_⟩
                   · have hcz := hw.cells.1
                     go_simp
                     (with_reducible exact Rg.up_value)
                   simp only [Act.put, List.setIfInBounds_toArray, List.set_cons_zero, List.set_cons_succ])
                  (refine Rr.wr_y (by simp only [List.getElem?_toArray, List.getElem?_cons_succ, List.getElem?_cons_zero]; rfl) (by rfl) ?_
                   apply Exists.intro
                   refine ⟨fun wz hw _ => ?_, ?_⟩
                   · have hcz := hw.cells.1
                     go_simp
                     (with_reducible exact Rg.up_value)
                   simp only [Act.put, List.setIfInBounds_toArray, List.set_cons_zero, List.set_cons_succ])
                  (refine Rr.wr_y (by simp only [List.getElem?_toArray, List.getElem?_cons_succ, List.getElem?_cons_zero]; rfl) (by rfl) ?_
                   apply Exists.intro
                   refine ⟨fun wz hw _ => ?_, ?_⟩
                   · have hcz := hw.cells.1
                     go_simp
                     (with_reducible exact Rg.up_value)
                   simp only [Act.put, List.setIfInBounds_toArray, List.set_cons_zero, List.set_cons_succ])
                  (refine Rr.wr_y (by simp only [List.getElem?_toArray, List.getElem?_cons_succ, List.getElem?_cons_zero]; rfl) (by rfl) ?_
                   apply Exists.intro
                   refine ⟨fun wz hw _ => ?_, ?_⟩
                   · have hcz := hw.cells.1
                     go_simp
                     (with_reducible exact Rg.up_value)
                   simp only [Act.put, List.setIfInBounds_toArray, List.set_cons_zero, List.set_cons_succ])
                  (refine Rr.wr_y (by simp only [List.getElem?_toArray, List.getElem?_cons_succ, List.getElem?_cons_zero]; rfl) (by rfl) ?_
                   apply Exists.intro
                   refine ⟨fun wz hw _ => ?_, ?_⟩
                   · have hcz := hw.cells.1
                     go_simp
                     (with_reducible exact Rg.up_value)
                   simp only [Act.put, List.setIfInBounds_toArray, List.set_cons_zero, List.set_cons_succ])
                  (refine Rr.wr_y (by simp only [List.getElem?_toArray, List.getElem?_cons_succ, List.getElem?_cons_zero]; rfl) (by rfl) ?_
                   apply Exists.intro
                   refine ⟨fun wz hw _ => ?_, ?_⟩
                   · have hcz := hw.cells.1
                     go_simp
                     (with_reducible exact Rg.up_value)
                   simp only [Act.put, List.setIfInBounds_toArray, List.set_cons_zero, List.set_cons_succ])
                  (refine Rr.wr_y (by simp only [List.getElem?_toArray, List.getElem?_cons_succ, List.getElem?_cons_zero]; rfl) (by rfl) ?_
                   apply Exists.intro
                   refine ⟨fun wz hw _ => ?_, ?_⟩
                   · have hcz := hw.cells.1
                     go_simp
                     apply Rg.up_enter
                     (with_reducible refine (HT.out _).mono ?_)
                     rintro e w3 ⟨rfl, hb3⟩
                     exact ⟨rfl, hb3⟩
                   simp only [Act.put, List.setIfInBounds_toArray, List.set_cons_zero, List.set_cons_succ])
                  refine Rr.wr_nil ?_
                  intro wy hy hh
                  clear hh
                  simp only [List.length_cons, List.length_nil, List.drop_succ_cons, List.drop_zero, Nat.reduceAdd]
                  have HG : Hid (gA per ma (qs.take (j + 1)) = gadd (gA per ma (qs.take j)) ⟨m, txtF xd⟩ per) := Lib.hid (by rw [List.take_succ_eq_append_getElem (by omega), gA_snoc, HQJ.out])
                  have HXY := Lib.hid (HX.out.trans hy)
                  have HLY := Lib.hid (HLB.out.ext hy)
                  have HRY := Lib.hid ((HR.out.ext hy).ask2 ⟨m, txtF xd⟩ (10 * per + min (j : Int) 9) (okI_small (by simp only; omega)) (okI_small (by omega)))
                  have HAY := Lib.hid (HA.out.ask (q := ⟨m, txtF xd⟩) (t := 10 * per + min (j : Int) 9) (z := per) (by omega) (by have := gA_len per (qs.take j) ma; rw [List.length_take] at this; omega) (by omega))
                  rw [← HG.out] at HAY
                  clear hy g1 g3 gl HX HLB HR HA HM1 HT HXL HQJ HG
                  go_upto_region 18 with (go_at_call 20; (with_reducible refine HRY.out.mono ?_); rintro e w4 ⟨rfl, hr4, hb4, hk4⟩)
                  go_wp2_with (fail)
                  exact ⟨⟨j + 1, _, by simp, by omega, Lib.hid hr4, Lib.hid (HAY.out.mono (by omega)), Lib.hid (HLY.out.keep hk4 hn1), Lib.hid (Below.trans HXY.out (HP.out ▸ hb4))⟩, by simp [iof]; omega⟩
                · obtain rfl : j = l.length := by omega
                  rw [← hql, List.take_length] at HA
                  have HA1 := Lib.hid (HA.out.mono (show _ ≤ 10 * (per : Int) + 9 by omega))
                  have HR1 := HR; have HL1 := HLB; have HX1 := HX
                  clear HA HR HLB HX HRX HXX
                  go_wp2_with (fail)
                  go_loopw [15] (fun k wr => ∃ (z : Int) (rb : Rl), k = .int .i64 z ∧ -1 ≤ z ∧ z < l.length ∧ Hid (R2 p1 wr p1 p2 ra rb) ∧ Hid (Op need rb (gA per mb ((qs.drop (z + 1).toNat).reverse.map (ph y))) (10 * per + (l.length - 1 - z) / 3)) ∧ Hid (LB n wr (.slice A l.length lc) l) ∧ Hid (Ext w1 wr)) (fun k _ => (iof k + 1).toNat)
                  case atStart => exact ⟨_, rb, rfl, by omega, by omega, HR1, Lib.hid (by rw [List.drop_eq_nil_of_le (by omega)]; exact HB.out.mono (by omega)), HL1, HX1⟩
                  case round =>
                    obtain ⟨z, rb, rfl, hz1, hz2, HR, HB, HLB, HX⟩ := hrel
                    by_cases hz0 : 0 ≤ z
                    · obtain ⟨j, rfl⟩ := Int.eq_ofNat_of_zero_le hz0
                      have hjl : j < l.length := by omega
                      obtain ⟨g, rfl, gl, g1, g3⟩ := HLB.out.at j hjl
                      have ho := HOK.out l[j] (List.getElem_mem _)
                      have hqj : qs[j]'(by omega) = ⟨l[j].b % 6, txtF l[j].d⟩ := by simp only [HQS.out, List.getElem_map]; rfl
                      have HQJ := Lib.hid hqj
                      clear hqj
                      generalize l[j] = xx at *
                      obtain ⟨xa, xb, xc, xd⟩ := xx
                      simp only at g1 g3 HQJ
                      have ho1 : OkI xb := ho.1
                      have ho3 : OkI xd := ho.2
                      clear ho
                      obtain ⟨m, hm⟩ : ∃ m, m = xb % 6 := ⟨_, rfl⟩
                      have m0 : 0 ≤ m := by omega
                      have m1 : m < 6 := by omega
                      have HM1 := Lib.hid (fun w => mod_x xb 6 (by decide) (by decide) ho1 w)
                      rw [← hm] at HM1 HQJ
                      clear hm
                      have HT := Lib.hid (fun w => text_any xd w ho3)
                      have hjc : (j : Int) < (l.length : Int) := by omega
                      have hmy : 0 ≤ m + y := by omega
                      have hlj : 0 ≤ (l.length : Int) - 1 - j := by omega
                      have HXL := Lib.hid HLB.out
                      go_upto_region 23 with (fail)
                      refine Rr.wp_region [(0, .y), (1, .y), (2, .y), (3, .y), (4, .y), (5, .y), (6, .y), (7, .y), (8, .y), (9, .y), (10, .y), (11, .y), (12, .y), (13, .y), (14, .y), (15, .y), (16, .y), (17, .y), (18, .y), (19, .y), (20, .y), (21, .y), (22, .y), (23, .y), (24, .y), (25, .y), (26, .y)] (fun _ => (.cells #[] 29, Rg.ptr)) (by kernel_rfl) (by kernel_rfl) ?_
                      (refine Rr.wr_y (by simp only [List.getElem?_toArray, List.getElem?_cons_succ, List.getElem?_cons_zero]; rfl) (by rfl) ?_
                       apply Exists.intro
                       refine ⟨fun wz hw _ => ?_, ?_⟩
                       · have hcz := hw.cells.1
                         go_simp
                         (with_reducible exact Rg.up_value)
                       simp only [Act.put, List.setIfInBounds_toArray, List.set_cons_zero, List.set_cons_succ])
                      (refine Rr.wr_y (by simp only [List.getElem?_toArray, List.getElem?_cons_succ, List.getElem?_cons_zero]; rfl) (by rfl) ?_
                       apply Exists.intro
                       refine ⟨fun wz hw _ => ?_, ?_⟩
                       · have hcz := hw.cells.1
                         go_simp
                         (with_reducible exact Rg.up_value)
                       simp only [Act.put, List.setIfInBounds_toArray, List.set_cons_zero, List.set_cons_succ])
                      (refine Rr.wr_y (by simp only [List.getElem?_toArray, List.getElem?_cons_succ, List.getElem?_cons_zero]; rfl) (by rfl) ?_
                       apply Exists.intro
                       refine ⟨fun wz hw _ => ?_, ?_⟩
                       · have hcz := hw.cells.1
                         go_simp
                         (with_reducible exact Rg.up_value)
                       simp only [Act.put, List.setIfInBounds_toArray, List.set_cons_zero, List.set_cons_succ])
                      (refine Rr.wr_y (by simp only [List.getElem?_toArray, List.getElem?_cons_succ, List.getElem?_cons_zero]; rfl) (by rfl) ?_
                       apply Exists.intro
                       refine ⟨fun wz hw _ => ?_, ?_⟩
                       · have hcz := hw.cells.1
                         go_simp
                         (with_reducible exact Rg.up_value)
                       simp only [Act.put, List.setIfInBounds_toArray, List.set_cons_zero, List.set_cons_succ])
                      (refine Rr.wr_y (by simp only [List.getElem?_toArray, List.getElem?_cons_succ, List.getElem?_cons_zero]; rfl) (by rfl) ?_
                       apply Exists.intro
                       refine ⟨fun wz hw _ => ?_, ?_⟩
                       · have hcz := hw.cells.1
                         go_simp
                         (with_reducible exact Rg.up_value)
                       simp only [Act.put, List.setIfInBounds_toArray, List.set_cons_zero, List.set_cons_succ])
                      (refine Rr.wr_y (by simp only [List.getElem?_toArray, List.getElem?_cons_succ, List.getElem?_cons_zero]; rfl) (by rfl) ?_
                       apply Exists.intro
                       refine ⟨fun wz hw _ => ?_, ?_⟩
                       · have hcz := hw.cells.1
                         go_simp
                         (with_reducible exact Rg.up_value)
                       simp only [Act.put, List.setIfInBounds_toArray, List.set_cons_zero, List.set_cons_succ])
                      (refine Rr.wr_y (by simp only [List.getElem?_toArray, List.getElem?_cons_succ, List.getElem?_cons_zero]; rfl) (by rfl) ?_
                       apply Exists.intro
                       refine ⟨fun wz hw _ => ?_, ?_⟩
                       · have hcz := hw.cells.1
                         go_simp
                         apply Rg.up_enter
                         (with_reducible refine (HM1.out _).mono ?_)
                         rintro e w3 ⟨rfl, hb3⟩
                         exact ⟨rfl, hb3⟩
                       simp only [Act.put, List.setIfInBounds_toArray, List.set_cons_zero, List.set_cons_succ])
                      (refine Rr.wr_y (by simp only [List.getElem?_toArray, List.getElem?_cons_succ, List.getElem?_cons_zero]; rfl) (by rfl) ?_
                       apply Exists.intro
                       refine ⟨fun wz hw _ => ?_, ?_⟩
                       · have hcz := hw.cells.1
                         go_simp
                         (with_reducible exact Rg.up_value)
                       simp only [Act.put, List.setIfInBounds_toArray, List.set_cons_zero, List.set_cons_succ])
                      (refine Rr.wr_y (by simp only [List.getElem?_toArray, List.getElem?_cons_succ, List.getElem?_cons_zero]; rfl) (by rfl) ?_
                       apply Exists.intro
                       refine ⟨fun wz hw _ => ?_, ?_⟩
                       · have hcz := hw.cells.1
                         go_simp
                         (with_reducible exact Rg.up_value)
                       simp only [Act.put, List.setIfInBounds_toArray, List.set_cons_zero, List.set_cons_succ])
                      (refine Rr.wr_y (by simp only [List.getElem?_toArray, List.getElem?_cons_succ, List.getElem?_cons_zero]; rfl) (by rfl) ?_
                       apply Exists.intro
                       refine ⟨fun wz hw _ => ?_, ?_⟩
                       · have hcz := hw.cells.1
                         go_simp
                         (with_reducible exact Rg.up_value)
                       simp only [Act.put, List.setIfInBounds_toArray, List.set_cons_zero, List.set_cons_succ])
                      (refine Rr.wr_y (by simp only [List.getElem?_toArray, List.getElem?_cons_succ, List.getElem?_cons_zero]; rfl) (by rfl) ?_
                       apply Exists.intro
                       refine ⟨fun wz hw _ => ?_, ?_⟩
                       · have hcz := hw.cells.1
                         go_simp
                         (with_reducible exact Rg.up_value)
                       simp only [Act.put, List.setIfInBounds_toArray, List.set_cons_zero, List.set_cons_succ])
                      (refine Rr.wr_y (by simp only [List.getElem?_toArray, List.getElem?_cons_succ, List.getElem?_cons_zero]; rfl) (by rfl) ?_
                       apply Exists.intro
                       refine ⟨fun wz hw _ => ?_, ?_⟩
                       · have hcz := hw.cells.1
                         go_simp
                         (with_reducible exact Rg.up_value)
                       simp only [Act.put, List.setIfInBounds_toArray, List.set_cons_zero, List.set_cons_succ])
                      (refine Rr.wr_y (by simp only [List.getElem?_toArray, List.getElem?_cons_succ, List.getElem?_cons_zero]; rfl) (by rfl) ?_
                       apply Exists.intro
                       refine ⟨fun wz hw _ => ?_, ?_⟩
                       · have hcz := hw.cells.1
                         go_simp
                         (with_reducible exact Rg.up_value)
                       simp only [Act.put, List.setIfInBounds_toArray, List.set_cons_zero, List.set_cons_succ])
                      (refine Rr.wr_y (by simp only [List.getElem?_toArray, List.getElem?_cons_succ, List.getElem?_cons_zero]; rfl) (by rfl) ?_
                       apply Exists.intro
                       refine ⟨fun wz hw _ => ?_, ?_⟩
                       · have hcz := hw.cells.1
                         go_simp
                         (with_reducible exact Rg.up_value)
                       simp only [Act.put, List.setIfInBounds_toArray, List.set_cons_zero, List.set_cons_succ])
                      (refine Rr.wr_y (by simp only [List.getElem?_toArray, List.getElem?_cons_succ, List.getElem?_cons_zero]; rfl) (by rfl) ?_
                       apply Exists.intro
                       refine ⟨fun wz hw _ => ?_, ?_⟩
                       · have hcz := hw.cells.1
                         go_simp
                         (with_reducible exact Rg.up_value)
                       simp only [Act.put, List.setIfInBounds_toArray, List.set_cons_zero, List.set_cons_succ])
                      (refine Rr.wr_y (by simp only [List.getElem?_toArray, List.getElem?_cons_succ, List.getElem?_cons_zero]; rfl) (by rfl) ?_
                       apply Exists.intro
                       refine ⟨fun wz hw _ => ?_, ?_⟩
                       · have hcz := hw.cells.1
                         go_simp
                         (with_reducible exact Rg.up_value)
                       simp only [Act.put, List.setIfInBounds_toArray, List.set_cons_zero, List.set_cons_succ])
                      (refine Rr.wr_y (by simp only [List.getElem?_toArray, List.getElem?_cons_succ, List.getElem?_cons_zero]; rfl) (by rfl) ?_
                       apply Exists.intro
                       refine ⟨fun wz hw _ => ?_, ?_⟩
                       · have hcz := hw.cells.1
                         go_simp
                         (with_reducible exact Rg.up_value)
                       simp only [Act.put, List.setIfInBounds_toArray, List.set_cons_zero, List.set_cons_succ])
                      (refine Rr.wr_y (by simp only [List.getElem?_toArray, List.getElem?_cons_succ, List.getElem?_cons_zero]; rfl) (by rfl) ?_
                       apply Exists.intro
                       refine ⟨fun wz hw _ => ?_, ?_⟩
                       · have hcz := hw.cells.1
                         go_simp
                         (with_reducible exact Rg.up_value)
                       simp only [Act.put, List.setIfInBounds_toArray, List.set_cons_zero, List.set_cons_succ])
                      (refine Rr.wr_y (by simp only [List.getElem?_toArray, List.getElem?_cons_succ, List.getElem?_cons_zero]; rfl) (by rfl) ?_
                       apply Exists.intro
                       refine ⟨fun wz hw _ => ?_, ?_⟩
                       · have hcz := hw.cells.1
                         go_simp
                         (with_reducible exact Rg.up_value)
                       simp only [Act.put, List.setIfInBounds_toArray, List.set_cons_zero, List.set_cons_succ])
                      (refine Rr.wr_y (by simp only [List.getElem?_toArray, List.getElem?_cons_succ, List.getElem?_cons_zero]; rfl) (by rfl) ?_
                       apply Exists.intro
                       refine ⟨fun wz hw _ => ?_, ?_⟩
                       · have hcz := hw.cells.1
                         go_simp
                         (with_reducible exact Rg.up_value)
                       simp only [Act.put, List.setIfInBounds_toArray, List.set_cons_zero, List.set_cons_succ])
                      (refine Rr.wr_y (by simp only [List.getElem?_toArray, List.getElem?_cons_succ, List.getElem?_cons_zero]; rfl) (by rfl) ?_
                       apply Exists.intro
                       refine ⟨fun wz hw _ => ?_, ?_⟩
                       · have hcz := hw.cells.1
                         go_simp
                         (with_reducible exact Rg.up_value)
                       simp only [Act.put, List.setIfInBounds_toArray, List.set_cons_zero, List.set_cons_succ])
                      (refine Rr.wr_y (by simp only [List.getElem?_toArray, List.getElem?_cons_succ, List.getElem?_cons_zero]; rfl) (by rfl) ?_
                       apply Exists.intro
                       refine ⟨fun wz hw _ => ?_, ?_⟩
                       · have hcz := hw.cells.1
                         go_simp
                         (with_reducible exact Rg.up_value)
                       simp only [Act.put, List.setIfInBounds_toArray, List.set_cons_zero, List.set_cons_succ])
                      (refine Rr.wr_y (by simp only [List.getElem?_toArray, List.getElem?_cons_succ, List.getElem?_cons_zero]; rfl) (by rfl) ?_
                       apply Exists.intro
                       refine ⟨fun wz hw _ => ?_, ?_⟩
                       · have hcz := hw.cells.1
                         go_simp
                         (with_reducible exact Rg.up_value)
                       simp only [Act.put, List.setIfInBounds_toArray, List.set_cons_zero, List.set_cons_succ])
                      (refine Rr.wr_y (by simp only [List.getElem?_toArray, List.getElem?_cons_succ, List.getElem?_cons_zero]; rfl) (by rfl) ?_
                       apply Exists.intro
                       refine ⟨fun wz hw _ => ?_, ?_⟩
                       · have hcz := hw.cells.1
                         go_simp
                         (with_reducible exact Rg.up_value)
                       simp only [Act.put, List.setIfInBounds_toArray, List.set_cons_zero, List.set_cons_succ])
                      (refine Rr.wr_y (by simp only [List.getElem?_toArray, List.getElem?_cons_succ, List.getElem?_cons_zero]; rfl) (by rfl) ?_
                       apply Exists.intro
                       refine ⟨fun wz hw _ => ?_, ?_⟩
                       · have hcz := hw.cells.1
                         go_simp
                         (with_reducible exact Rg.up_value)
                       simp only [Act.put, List.setIfInBounds_toArray, List.set_cons_zero, List.set_cons_succ])
                      (refine Rr.wr_y (by simp only [List.getElem?_toArray, List.getElem?_cons_succ, List.getElem?_cons_zero]; rfl) (by rfl) ?_
                       apply Exists.intro
                       refine ⟨fun wz hw _ => ?_, ?_⟩
                       · have hcz := hw.cells.1
                         go_simp
                         (with_reducible exact Rg.up_value)
                       simp only [Act.put, List.setIfInBounds_toArray, List.set_cons_zero, List.set_cons_succ])
                      (refine Rr.wr_y (by simp only [List.getElem?_toArray, List.getElem?_cons_succ, List.getElem?_cons_zero]; rfl) (by rfl) ?_
                       apply Exists.intro
                       refine ⟨fun wz hw _ => ?_, ?_⟩
                       · have hcz := hw.cells.1
                         go_simp
                         apply Rg.up_enter
                         (with_reducible refine (HT.out _).mono ?_)
                         rintro e w3 ⟨rfl, hb3⟩
                         exact ⟨rfl, hb3⟩
                       simp only [Act.put, List.setIfInBounds_toArray, List.set_cons_zero, List.set_cons_succ])
                      refine Rr.wr_nil ?_
                      intro wy hy2 hh
                      clear hh
                      simp only [List.length_cons, List.length_nil, List.drop_succ_cons, List.drop_zero, Nat.reduceAdd]
                      have HXY := Lib.hid (HX.out.trans hy2)
                      have HLY := Lib.hid (HLB.out.ext hy2)
                      obtain ⟨T, hT⟩ : ∃ T, T = 10 * (per : Int) + ((l.length : Int) - 1 - j) / 3 := ⟨_, rfl⟩
                      have T0 : 0 ≤ T := by omega
                      have T1 : T ≤ 10 * per + 9 := by omega
                      have HG : Hid (gA per mb ((qs.drop j).reverse.map (ph y)) = gadd (gA per mb ((qs.drop (j + 1)).reverse.map (ph y))) ⟨100 + (m + y) % 6, txtF xd⟩ per) := Lib.hid (by rw [List.drop_eq_getElem_cons (show j < qs.length by omega), List.reverse_cons, List.map_append, List.map_cons, List.map_nil, gA_snoc, HQJ.out]; rfl)
                      have HRY := Lib.hid ((HR.out.symm.ext hy2).ask2 ⟨100 + (m + y) % 6, txtF xd⟩ (10 * per + ((l.length : Int) - 1 - j) / 3) (okI_small (by simp only; omega)) (okI_small (by omega)))
                      rw [show ((j : Int) + 1).toNat = j + 1 from by omega] at HB
                      have hlen9 := gA_len per ((qs.drop (j + 1)).reverse.map (ph y)) mb
                      rw [List.length_map, List.length_reverse, List.length_drop, HM.out.len] at hlen9
                      have HAY := Lib.hid (HB.out.ask (q := ⟨100 + (m + y) % 6, txtF xd⟩) (t := 10 * per + ((l.length : Int) - 1 - j) / 3) (z := per) (by omega) (by omega) (by omega))
                      rw [← HG.out] at HAY
                      clear hy2 g1 g3 gl HX HLB HR HB HM1 HT HXL HQJ HG hT hlen9
                      go_upto_region 22 with (go_at_call 20; (with_reducible refine HRY.out.mono ?_); rintro e w4 ⟨rfl, hr4, hb4, hk4⟩)
                      go_wp2_with (fail)
                      exact ⟨⟨(j : Int) - 1, _, by simp, by omega, by omega, Lib.hid hr4.symm, Lib.hid (by rw [show ((j : Int) - 1 + 1).toNat = j from by omega]; exact HAY.out.mono (by omega)), Lib.hid (HLY.out.keep hk4 hn2), Lib.hid (Below.trans HXY.out (HP.out ▸ hb4))⟩, by simp [iof] <;> omega⟩
                    · obtain rfl : z = -1 := by omega
                      rw [show ((-1 : Int) + 1).toNat = 0 from rfl, List.drop_zero] at HB
                      have HB1 := Lib.hid (HB.out.mono (show 10 * (per : Int) + ((l.length : Int) - 1 - -1) / 3 ≤ 10 * (per : Int) + 10 by omega))
                      have HM1 := Lib.hid (HM.out.asked (z := per) (qs := qs) (fun q hq => by
                        rw [HQS.out] at hq
                        obtain ⟨x, -, rfl⟩ := List.mem_map.1 hq
                        exact ⟨Int.emod_nonneg _ (by decide), Int.emod_lt_of_pos _ (by decide)⟩))
                      have HA2 := Lib.hid (HA1.out.mono (show 10 * (per : Int) + 9 ≤ 10 * (per : Int) + 10 by omega))
                      have hlen9 := gA_len per qs ma
                      clear HB HM HLB HA1 HL1 HX1 HQS
                      generalize gA per ma qs = na at *
                      generalize gA per mb (qs.reverse.map (ph y)) = nb at *
                      obtain ⟨eo, ma2, mb2, oa, ob, bm2, len2⟩ := HA2.out.tick HB1.out HM1.out (Int.le_refl _)
                      have hm2 : ma2.length ≤ 20 * (per + 1) := by omega
                      have hla : (tickF ra (10 * (per : Int) + 10)).2.l.length = ma2.length := by rw [oa.l]
                      have hlb : (tickF rb (10 * (per : Int) + 10)).2.l.length = ma2.length := by rw [ob.l, bm2.len]
                      have hTK := HR.out.tick1 (10 * (per : Int) + 10) (okI_small (by omega))
                      have hTK2 := fun w' (h : R2 p1 w' p1 p2 (tickF ra (10 * (per : Int) + 10)).2 rb) => h.symm.tick1 (10 * (per : Int) + 10) (okI_small (by omega))
                      have hLE := fun ts (h : (tickF ra (10 * (per : Int) + 10)).1 = some ts) => tick_len h HR.out.len.1
                      have hlt := HR.out.lt
                      rw [← eo] at hTK2
                      obtain ⟨o, ho⟩ : ∃ o, o = (tickF ra (10 * (per : Int) + 10)).1 := ⟨_, rfl⟩
                      rw [← ho] at hTK hTK2 hLE
                      clear ho eo
                      have oa2 := oa.mono (show 10 * (per : Int) + 10 ≤ 10 * ((per + 1 : Nat) : Int) by omega)
                      have ob2 := ob.mono (show 10 * (per : Int) + 10 ≤ 10 * ((per + 1 : Nat) : Int) by omega)
                      generalize (tickF ra (10 * (per : Int) + 10)).2 = ra2 at *
                      generalize (tickF rb (10 * (per : Int) + 10)).2 = rb2 at *
                      have HTK := Lib.hid hTK; have HTK2 := Lib.hid hTK2; have HLE := Lib.hid hLE; have HLT := Lib.hid hlt
                      have HOA := Lib.hid oa2; have HOB := Lib.hid ob2; have HBM := Lib.hid bm2; have HLA := Lib.hid hla; have HLB := Lib.hid hlb
                      clear hTK hTK2 hLE hlt oa ob oa2 ob2 bm2 hla hlb HA2 HB1 HM1 HR hlen9 len2
                      go_wp2_with (first
                        | (go_at_call 16; (with_reducible refine HTK.out.mono ?_); rintro e w6 ⟨v6, rfl, hv6, hr6, hb6, hk6⟩; clear HTK)
                        | (go_at_call 16; (with_reducible refine (HTK2.out _ hr6).mono ?_); rintro e w7 ⟨v7, rfl, hv7, hr7, hb7, hk7⟩; have hSm := same_any v6 v7 o o w7 (hv6.k1 hk7 HLT.out.2.2.2) hv7 HLE.out HLE.out; rw [decide_eq_true rfl] at hSm; clear HTK2)
                        | (go_at_call 15; (with_reducible refine hSm.mono ?_); rintro e w8 ⟨rfl, hx8⟩; have hr8 := hr7.symm.ext hx8; have hw1 := hr8.wait1 _ HLA.out; have hw2 := fun w' (h : w8 = w') => (h ▸ hr8.symm.wait1 _ HLB.out : Calls Try.prog 22 #[.pointer (some ⟨p2, 0, none⟩)] w' fun e w'' => e = .returned (.int .i64 ma2.length) ∧ w'' = w'))
                        | (go_at_call 22; (with_reducible refine hw1.mono ?_); rintro e w9 ⟨rfl, hw9⟩; subst hw9; clear hw1)
                        | (go_at_call 22; (with_reducible refine (hw2 _ rfl).mono ?_); rintro e w9 ⟨rfl, hw9⟩; subst hw9; clear hw2))
                      have hx7 : Ext w1 w7 := Below.trans HX.out (Below.trans (HP.out ▸ hb6) (HP.out ▸ hb7))
                      exact ⟨⟨per + 1, ra2, rb2, ma2, mb2, by simp, by omega, hm2, Lib.hid hr8, HOA, HOB, HBM, Lib.hid (Below.trans hx7 (Below.mono hx8 hx7.size))⟩, by simp [iof]; omega⟩
    · obtain rfl : per = 5 := by omega
      have hC1 := HR.out.close1
      have hLT := HR.out.lt
      have hLE := fun ts (h : (closeF ra).1 = some ts) => close_len h HR.out.len.1
      have hC2 := fun w' (h : R2 p1 w' p1 p2 (closeF ra).2 rb) => h.symm.close1
      rw [← HA.out.close HB.out HM.out] at hC2
      obtain ⟨o, ho⟩ : ∃ o, o = (closeF ra).1 := ⟨_, rfl⟩
      rw [← ho] at hC1 hLE hC2
      clear ho
      generalize (closeF ra).2 = ra2 at *
      have HC1 := Lib.hid hC1; have HC2 := Lib.hid hC2; have HLE := Lib.hid hLE; have HLT := Lib.hid hLT
      clear hC1 hC2 hLE hLT HR HA HB HM
      go_wp2_with (first
        | (go_at_call 18; (with_reducible refine HC1.out.mono ?_); rintro e w6 ⟨v6, rfl, hv6, hr6, hb6, hk6⟩; clear HC1)
        | (go_at_call 18; (with_reducible refine (HC2.out _ hr6).mono ?_); rintro e w7 ⟨v7, rfl, hv7, hr7, hb7, hk7⟩; have hSm := same_any v6 v7 o o w7 (hv6.k1 hk7 HLT.out.2.2.2) hv7 HLE.out HLE.out; rw [decide_eq_true rfl] at hSm)
        | (go_at_call 15; (with_reducible refine hSm.mono ?_); rintro e w8 ⟨rfl, hx8⟩))
      go_ret
      exact ⟨rfl, HX1.out.trans ((Below.trans HX.out (Below.trans (HP.out ▸ hb6) (HP.out ▸ hb7))).trans (Below.mono hx8 (by have := (Below.trans HX.out (Below.trans (HP.out ▸ hb6) (HP.out ▸ hb7)) : Ext w1 w7).size; omega)))⟩
end Go.Proofs.Ytbeoihjfjkbfhaa
