/-
  Lemmas of this claim (JtAS). Nothing is asked.
-/
import Derived.Test.YteomcpplajeidaaGreatJtAR
namespace Go.Proofs.YteomcpplajeidaaGreat
set_option linter.unusedVariables false
set_option linter.unusedSimpArgs false
set_option maxRecDepth 100000
open Go.RowKit
set_option maxHeartbeats 32000000 in
theorem sanity_any (w : World) : Calls Tryz.prog 11 #[] w fun e w' => e = .returned (.bool true) ∧ Ext w w' := by
  go_enter Tryz.func11, Tryz.ntmps11
  go_upto_region 2 with (first
    | (go_at_call 27; (with_reducible refine (chairs_any _).mono ?_); rintro e w1 ⟨r, g, q1, q2, q3, rfl, hx1, htf, hgl, hg, hq1, hb1, hq2, hb2, hq3, hb3⟩
       obtain ⟨htv, hlow, hhigh⟩ := tv_of htf
       have HX1 := Lib.hid hx1; have HTV := Lib.hid htv; have HXR := Lib.hid (chE_xr hg hb1 hb2 hb3); have HG := Lib.hid hg; have HLO := Lib.hid hlow; have HHI := Lib.hid hhigh
       clear hx1 htf hgl hg hq1 hb1 hq2 hb2 hq3 hb3 htv hlow hhigh
       obtain ⟨row, hrow⟩ : ∃ row, row = (tenC r).toList := ⟨_, rfl⟩
       have hrt : tenC r = row.toArray := by rw [hrow]
       rw [hrt]
       have hrs : row.length = 20 := by rw [hrow]; rfl
       have hone : ∀ v ∈ row.toArray.toList, v.oneCell' = true := by rw [← hrt]; exact ten_one r
       have HROW := Lib.hid hrt; clear hrow hrt)
    | (refine wpList_store_row rfl 39 (.tmp 1) (.tmp 13) rfl w1.heap.size (by rfl) row.toArray (by rfl) _ 39 (block_new rfl) (by simp [hrs]) (by rw [List.size_toArray, hrs]; kernel_rfl) hone ?_))
  have hb2 : ((w1.alloc (.cells (tenC zeroT) 39)).setRow w1.heap.size row.toArray).heap[w1.heap.size]? = some (.cells row.toArray 39) := setRow_heap _ _ _ row.toArray _ _ (block_new rfl)
  have hx2 : Ext w1 ((w1.alloc (.cells (tenC zeroT) 39)).setRow w1.heap.size row.toArray) := below_setRow (Ext.alloc (Ext.refl _) _) (Nat.le_refl _) _
  have HP := Lib.hid hb2; have HX2 := Lib.hid (HX1.out.trans hx2); have HT2 := Lib.hid (HTV.out.ext hx2); have HV2 := Lib.hid (HXR.out.ext hx2); have HG2 := Lib.hid ((hx2.block _ (Rg.lt_of_heap HG.out)).trans HG.out)
  clear hb2 hx2 HX1 HTV HXR HG
  generalize hW2 : (w1.alloc (.cells (tenC zeroT) 39)).setRow w1.heap.size row.toArray = W2 at *
  have HRG : Hid (∀ wz, Ext W2 wz → wz.rangeAt w1.heap.size 0 row) := Lib.hid (fun wz hz => range_of ((hz.block _ (Rg.lt_of_heap HP.out)).trans HP.out) 0 row (fun j v hv => by simpa using hv))
  have HR1 : Hid (∀ wz, Ext W2 wz → Calls Tryz.prog 15 #[.agg row.toArray, .int .i64 1, .slice (some ⟨g, 0, none⟩) 3 3] wz fun e w' => ∃ v', e = .returned (.tuple #[v', .int .i64 0]) ∧ Ext wz w' ∧ SR Rk.cs 5 w' v' rkC) := Lib.hid (fun wz hz => by
    rw [← HROW.out]
    refine (Rank_any r tpC 1 _ (chE q1 q2 q3) wz (HT2.out.ext hz) (HV2.out.ext hz) (by show (3 : Nat) ≤ 100000; omega) (sorts_12 r tpC 1 _ (by show (3 : Nat) ≤ 12; omega))).mono ?_
    rintro e w' ⟨v', rfl, h1, h2⟩
    obtain ⟨k1, k2⟩ := rank_1 q1 q2 q3 r HLO.out HHI.out
    rw [k2] at h2
    exact ⟨v', by rw [k1], h1, SR.of_row (cs := Rk.cs) (xs := rkC) (fun y => (one_rk y).1) h2 (by decide)⟩)
  have HR2 : Hid (∀ wz, Ext W2 wz → Calls Tryz.prog 15 #[.agg row.toArray, .int .i64 2, .slice (some ⟨g, 0, none⟩) 3 3] wz fun e w' => ∃ v', e = .returned (.tuple #[v', .int .i64 34]) ∧ Ext wz w') := Lib.hid (fun wz hz => by
    rw [← HROW.out]
    refine (Rank_any r tpC 2 _ (chE q1 q2 q3) wz (HT2.out.ext hz) (HV2.out.ext hz) (by show (3 : Nat) ≤ 100000; omega) (sorts_12 r tpC 2 _ (by show (3 : Nat) ≤ 12; omega))).mono ?_
    rintro e w' ⟨v', rfl, h1, h2⟩
    exact ⟨v', by rw [(rank_2 q1 q2 q3 r).1], h1⟩)
  have HWN : Hid (∀ wz, Ext W2 wz → Calls Tryz.prog 17 #[.agg row.toArray, .int .i64 1, .slice (some ⟨g, 0, none⟩) 3 3] wz fun e w' => e = .returned (.tuple #[.int .i64 7, .int .i64 0]) ∧ Ext wz w') := Lib.hid (fun wz hz => by
    rw [← HROW.out]
    refine (Winner_any r tpC 1 _ (chE q1 q2 q3) wz (HT2.out.ext hz) (HV2.out.ext hz) (by show (3 : Nat) ≤ 100000; omega) (sorts_12 r tpC 1 _ (by show (3 : Nat) ≤ 12; omega))).mono ?_
    rintro e w' ⟨rfl, h1⟩
    obtain ⟨k1, k2⟩ := rank_1 q1 q2 q3 r HLO.out HHI.out
    exact ⟨by rw [k1, k2]; rfl, h1⟩)
  have HB : Hid (∀ wz, Ext W2 wz → Calls Tryz.prog 20 #[.agg row.toArray, .agg #[.int .i64 7, .int .i64 1, .int .i64 1, .int .i64 100, .slice (some ⟨q1, 0, none⟩) 1 1], .agg #[.int .i64 8, .int .i64 1, .int .i64 2, .int .i64 200, .slice (some ⟨q2, 0, none⟩) 1 1], .agg #[.int .i64 1, .int .i64 1], .agg #[.int .i64 1, .int .i64 1]] wz (fun e w' => e = .returned (.bool false) ∧ Ext wz w') ∧
    Calls Tryz.prog 20 #[.agg row.toArray, .agg #[.int .i64 8, .int .i64 1, .int .i64 2, .int .i64 200, .slice (some ⟨q2, 0, none⟩) 1 1], .agg #[.int .i64 7, .int .i64 1, .int .i64 1, .int .i64 100, .slice (some ⟨q1, 0, none⟩) 1 1], .agg #[.int .i64 1, .int .i64 1], .agg #[.int .i64 1, .int .i64 1]] wz (fun e w' => e = .returned (.bool true) ∧ Ext wz w')) := Lib.hid (fun wz hz => by
    rw [← HROW.out]
    exact en_better r q1 q2 q3 wz (HT2.out.ext hz) (HV2.out.ext hz))
  clear hW2
  obtain ⟨P, hP⟩ : ∃ x, x = w1.heap.size := ⟨_, rfl⟩
  rw [← hP] at HP HRG ⊢
  have hl2 : P < W2.heap.size := Rg.lt_of_heap HP.out
  have HX0 := Lib.hid (Ext.refl W2)
  clear hone HROW HLO HHI HT2 HV2 hP
  go_upto_region 3 with (first
    | (refine wpList_load_mid rfl 39 (.tmp 1) rfl P 0 (by rfl) row _ (HRG.out _ HX0.out) Tryz.underlying39 rfl (by rw [hrs]; kernel_rfl) ?_)
    | (go_at_call 15; (with_reducible refine (HR1.out _ HX0.out).mono ?_); rintro e w3 ⟨v3, rfl, hx3, hs3⟩; have HX3 := Lib.hid hx3; have HS3 := Lib.hid hs3; clear hx3 hs3))
  go_upto_region 4 with (first
    | (refine wpList_load_mid rfl 39 (.tmp 1) rfl P 0 (by rfl) row _ (HRG.out _ HX3.out) Tryz.underlying39 rfl (by rw [hrs]; kernel_rfl) ?_)
    | (go_at_call 17; (with_reducible refine (HWN.out _ HX3.out).mono ?_); rintro e w4 ⟨rfl, hx4⟩; have HX4 := Lib.hid (HX3.out.trans hx4); have HS4 := Lib.hid (HS3.out.ext hx4); clear hx4))
  go_upto_region 5 with (first
    | (refine wpList_load_mid rfl 39 (.tmp 1) rfl P 0 (by rfl) row _ (HRG.out _ HX4.out) Tryz.underlying39 rfl (by rw [hrs]; kernel_rfl) ?_)
    | (go_at_call 15; (with_reducible refine (HR2.out _ HX4.out).mono ?_); rintro e w5 ⟨v5, rfl, hx5⟩; have HX5 := Lib.hid (HX4.out.trans hx5); have HS5 := Lib.hid (HS4.out.ext hx5); clear hx5))
  go_upto_region 7 with (fail)
  obtain ⟨W7, hW7⟩ : ∃ W7, W7 = (w5.alloc (.cells #[.int .i64 1, .int .i64 1] 30)).alloc (.cells #[.int .i64 7, .int .i64 4, .int .i64 5, .int .i64 1, .int .i64 0, .int .i64 8, .int .i64 7, .int .i64 10, .int .i64 2, .int .i64 0, .int .i64 9, .int .i64 0, .int .i64 0, .int .i64 0, .int .i64 16] 62) := ⟨_, rfl⟩
  rw [← hW7]
  have hx7 : Ext w5 W7 := by rw [hW7]; exact Ext.alloc (Ext.alloc (Ext.refl _) _) _
  have ho7 : W7.heap[w5.heap.size]? = some (.cells #[.int .i64 1, .int .i64 1] 30) := by rw [hW7]; exact al (alloc_new w5 _)
  have hk7 : W7.heap[w5.heap.size + 1]? = some (.cells (rkC.flatMap Rk.cs).toArray 62) := by
    rw [hW7]
    have := alloc_new (w5.alloc (.cells #[.int .i64 1, .int .i64 1] 30)) (.cells (rkC.flatMap Rk.cs).toArray 62)
    rw [show (w5.alloc (.cells #[.int .i64 1, .int .i64 1] 30)).heap.size = w5.heap.size + 1 by simp] at this
    exact this
  have HX7 := Lib.hid (HX5.out.trans hx7); have HO7 := Lib.hid ho7; have HS7 := Lib.hid (HS5.out.ext hx7)
  have HP7 := Lib.hid ((HX7.out.block _ (Rg.lt_of_heap HP.out)).trans HP.out)
  have HG7 := Lib.hid ((HX7.out.block _ (Rg.lt_of_heap HG2.out)).trans HG2.out)
  have HK7 : Hid (SR Rk.cs 5 W7 (.slice (some ⟨w5.heap.size + 1, 0, none⟩) 3 3) rkC) := Lib.hid (SR.of_block (cs := Rk.cs) (sz := 5) (xs := rkC) (fun y => (one_rk y).1) hk7 (by decide))
  have HSM : Hid (∀ wz, Ext W7 wz → Calls Tryz.prog 19 #[v3, .slice (some ⟨w5.heap.size + 1, 0, none⟩) 3 3] wz fun e w' => e = .returned (.bool true) ∧ Ext wz w') := Lib.hid (fun wz hz => by
    have h := same19_any _ _ rkC rkC wz (HS7.out.ext hz) (HK7.out.ext hz)
    rw [sameL_eq.2 rfl] at h
    exact h)
  have HBF : Hid (∀ wz, Ext W7 wz → Calls Tryz.prog 20 #[.agg row.toArray, .agg #[.int .i64 7, .int .i64 1, .int .i64 1, .int .i64 100, .slice (some ⟨q1, 0, none⟩) 1 1], .agg #[.int .i64 8, .int .i64 1, .int .i64 2, .int .i64 200, .slice (some ⟨q2, 0, none⟩) 1 1], .agg #[.int .i64 1, .int .i64 1], .agg #[.int .i64 1, .int .i64 1]] wz (fun e w' => e = .returned (.bool false) ∧ Ext wz w')) := Lib.hid (fun wz hz => (HB.out wz (HX7.out.trans hz)).1)
  have HBT : Hid (∀ wz, Ext W7 wz → Calls Tryz.prog 20 #[.agg row.toArray, .agg #[.int .i64 8, .int .i64 1, .int .i64 2, .int .i64 200, .slice (some ⟨q2, 0, none⟩) 1 1], .agg #[.int .i64 7, .int .i64 1, .int .i64 1, .int .i64 100, .slice (some ⟨q1, 0, none⟩) 1 1], .agg #[.int .i64 1, .int .i64 1], .agg #[.int .i64 1, .int .i64 1]] wz (fun e w' => e = .returned (.bool true) ∧ Ext wz w')) := Lib.hid (fun wz hz => (HB.out wz (HX7.out.trans hz)).2)
  have HE1 : Hid (∀ wz, Ext W7 wz → wz.rangeAt g 0 [.int .i64 7, .int .i64 1, .int .i64 1, .int .i64 100, .slice (some ⟨q1, 0, none⟩) 1 1]) := Lib.hid (fun wz hz => range_of ((hz.block _ (Rg.lt_of_heap HG7.out)).trans HG7.out) 0 _ (fun j v hv => by
    have hj : j < 5 := (List.getElem?_eq_some_iff.1 hv).1
    rcases (show j = 0 ∨ j = 1 ∨ j = 2 ∨ j = 3 ∨ j = 4 by omega) with rfl | rfl | rfl | rfl | rfl <;> exact hv))
  have HE2 : Hid (∀ wz, Ext W7 wz → wz.rangeAt g 5 [.int .i64 8, .int .i64 1, .int .i64 2, .int .i64 200, .slice (some ⟨q2, 0, none⟩) 1 1]) := Lib.hid (fun wz hz => range_of ((hz.block _ (Rg.lt_of_heap HG7.out)).trans HG7.out) 5 _ (fun j v hv => by
    have hj : j < 5 := (List.getElem?_eq_some_iff.1 hv).1
    rcases (show j = 0 ∨ j = 1 ∨ j = 2 ∨ j = 3 ∨ j = 4 by omega) with rfl | rfl | rfl | rfl | rfl <;> exact hv))
  have HXF := Lib.hid (HX2.out.trans HX7.out)
  obtain ⟨O, hO⟩ : ∃ O, O = w5.heap.size := ⟨_, rfl⟩
  rw [← hO] at HO7 HSM ⊢
  clear hO hW7 hx7 ho7 hk7 HS7 HS5 HS4 HS3 HR1 HR2 HWN HB HRG HP HG2 HK7 HX0 HX3 HX4 HX5 HX2 hl2
  refine Rr.wp_region ((List.range 44).map (fun i => (i, .y))) (fun _ => (.cells #[] 29, Rg.ptr)) (by kernel_rfl) (by kernel_rfl) ?_
  simp only [List.range, List.range.loop, List.map_cons, List.map_nil]
  (refine Rr.wr_y (by simp only [List.getElem?_toArray, List.getElem?_cons_succ, List.getElem?_cons_zero]; rfl) (by rfl) ?_
   apply Exists.intro
   refine ⟨fun wz hw _ => ?_, ?_⟩
   · have hcz := hw.cells.1
     go_simp
     (with_reducible exact Rg.up_value)
   simp only [Act.put, List.setIfInBounds_toArray, List.set_cons_zero, List.set_cons_succ])
  (refine Rr.wr_y (by simp only [List.getElem?_toArray, List.getElem?_cons_succ, List.getElem?_cons_zero]; rfl) (by rfl) ?_
   apply Exists.intro
   refine ⟨fun wz hw _ => ?_, ?_⟩
   · have hcz := hw.cells.1
     go_simp
     (with_reducible exact Rg.up_value)
   simp only [Act.put, List.setIfInBounds_toArray, List.set_cons_zero, List.set_cons_succ])
  (refine Rr.wr_y (by simp only [List.getElem?_toArray, List.getElem?_cons_succ, List.getElem?_cons_zero]; rfl) (by rfl) ?_
   apply Exists.intro
   refine ⟨fun wz hw _ => ?_, ?_⟩
   · have hcz := hw.cells.1
     go_simp
     (with_reducible exact Rg.up_value)
   simp only [Act.put, List.setIfInBounds_toArray, List.set_cons_zero, List.set_cons_succ])
  (refine Rr.wr_y (by simp only [List.getElem?_toArray, List.getElem?_cons_succ, List.getElem?_cons_zero]; rfl) (by rfl) ?_
   apply Exists.intro
   refine ⟨fun wz hw _ => ?_, ?_⟩
   · have hcz := hw.cells.1
     go_simp
     (with_reducible exact Rg.up_value)
   simp only [Act.put, List.setIfInBounds_toArray, List.set_cons_zero, List.set_cons_succ])
  (refine Rr.wr_y (by simp only [List.getElem?_toArray, List.getElem?_cons_succ, List.getElem?_cons_zero]; rfl) (by rfl) ?_
   apply Exists.intro
   refine ⟨fun wz hw _ => ?_, ?_⟩
   · have hcz := hw.cells.1
     go_simp
     (with_reducible exact Rg.up_value)
   simp only [Act.put, List.setIfInBounds_toArray, List.set_cons_zero, List.set_cons_succ])
  (refine Rr.wr_y (by simp only [List.getElem?_toArray, List.getElem?_cons_succ, List.getElem?_cons_zero]; rfl) (by rfl) ?_
   apply Exists.intro
   refine ⟨fun wz hw _ => ?_, ?_⟩
   · have hcz := hw.cells.1
     go_simp
     apply Rg.up_enter
     (with_reducible refine (HSM.out wz hw).mono ?_)
     rintro e w3 ⟨rfl, hb3⟩
     exact ⟨rfl, hb3⟩
   simp only [Act.put, List.setIfInBounds_toArray, List.set_cons_zero, List.set_cons_succ])
  (refine Rr.wr_y (by simp only [List.getElem?_toArray, List.getElem?_cons_succ, List.getElem?_cons_zero]; rfl) (by rfl) ?_
   apply Exists.intro
   refine ⟨fun wz hw _ => ?_, ?_⟩
   · have hcz := hw.cells.1
     go_simp
     (with_reducible exact Rg.up_value)
   simp only [Act.put, List.setIfInBounds_toArray, List.set_cons_zero, List.set_cons_succ])
  (refine Rr.wr_y (by simp only [List.getElem?_toArray, List.getElem?_cons_succ, List.getElem?_cons_zero]; rfl) (by rfl) ?_
   apply Exists.intro
   refine ⟨fun wz hw _ => ?_, ?_⟩
   · have hcz := hw.cells.1
     go_simp
     (with_reducible exact Rg.up_value)
   simp only [Act.put, List.setIfInBounds_toArray, List.set_cons_zero, List.set_cons_succ])
  (refine Rr.wr_y (by simp only [List.getElem?_toArray, List.getElem?_cons_succ, List.getElem?_cons_zero]; rfl) (by rfl) ?_
   apply Exists.intro
   refine ⟨fun wz hw _ => ?_, ?_⟩
   · have hcz := hw.cells.1
     go_simp
     (with_reducible exact Rg.up_value)
   simp only [Act.put, List.setIfInBounds_toArray, List.set_cons_zero, List.set_cons_succ])
  (refine Rr.wr_y (by simp only [List.getElem?_toArray, List.getElem?_cons_succ, List.getElem?_cons_zero]; rfl) (by rfl) ?_
   apply Exists.intro
   refine ⟨fun wz hw _ => ?_, ?_⟩
   · have hcz := hw.cells.1
     go_simp
     (with_reducible exact Rg.up_value)
   simp only [Act.put, List.setIfInBounds_toArray, List.set_cons_zero, List.set_cons_succ])
  (refine Rr.wr_y (by simp only [List.getElem?_toArray, List.getElem?_cons_succ, List.getElem?_cons_zero]; rfl) (by rfl) ?_
   apply Exists.intro
   refine ⟨fun wz hw _ => ?_, ?_⟩
   · have hcz := hw.cells.1
     go_simp
     (with_reducible exact Rg.up_value)
   simp only [Act.put, List.setIfInBounds_toArray, List.set_cons_zero, List.set_cons_succ])
  (refine Rr.wr_y (by simp only [List.getElem?_toArray, List.getElem?_cons_succ, List.getElem?_cons_zero]; rfl) (by rfl) ?_
   apply Exists.intro
   refine ⟨fun wz hw _ => ?_, ?_⟩
   · have hcz := hw.cells.1
     go_simp
     (with_reducible exact Rg.up_value)
   simp only [Act.put, List.setIfInBounds_toArray, List.set_cons_zero, List.set_cons_succ])
  (refine Rr.wr_y (by simp only [List.getElem?_toArray, List.getElem?_cons_succ, List.getElem?_cons_zero]; rfl) (by rfl) ?_
   apply Exists.intro
   refine ⟨fun wz hw _ => ?_, ?_⟩
   · have hcz := hw.cells.1
     go_simp
     (with_reducible exact Rg.up_value)
   simp only [Act.put, List.setIfInBounds_toArray, List.set_cons_zero, List.set_cons_succ])
  (refine Rr.wr_y (by simp only [List.getElem?_toArray, List.getElem?_cons_succ, List.getElem?_cons_zero]; rfl) (by rfl) ?_
   apply Exists.intro
   refine ⟨fun wz hw _ => ?_, ?_⟩
   · have hcz := hw.cells.1
     go_simp
     (with_reducible exact Rg.up_value)
   simp only [Act.put, List.setIfInBounds_toArray, List.set_cons_zero, List.set_cons_succ])
  (refine Rr.wr_y (by simp only [List.getElem?_toArray, List.getElem?_cons_succ, List.getElem?_cons_zero]; rfl) (by rfl) ?_
   apply Exists.intro
   refine ⟨fun wz hw _ => ?_, ?_⟩
   · have hcz := hw.cells.1
     go_simp
     (with_reducible exact Rg.up_value)
   simp only [Act.put, List.setIfInBounds_toArray, List.set_cons_zero, List.set_cons_succ])
  (refine Rr.wr_y (by simp only [List.getElem?_toArray, List.getElem?_cons_succ, List.getElem?_cons_zero]; rfl) (by rfl) ?_
   apply Exists.intro
   refine ⟨fun wz hw _ => ?_, ?_⟩
   · have hcz := hw.cells.1
     go_simp
     (with_reducible exact Rg.up_value)
   simp only [Act.put, List.setIfInBounds_toArray, List.set_cons_zero, List.set_cons_succ])
  (refine Rr.wr_y (by simp only [List.getElem?_toArray, List.getElem?_cons_succ, List.getElem?_cons_zero]; rfl) (by rfl) ?_
   apply Exists.intro
   refine ⟨fun wz hw _ => ?_, ?_⟩
   · have hcz := hw.cells.1
     go_simp
     (with_reducible exact Rg.up_value)
   simp only [Act.put, List.setIfInBounds_toArray, List.set_cons_zero, List.set_cons_succ])
  (refine Rr.wr_y (by simp only [List.getElem?_toArray, List.getElem?_cons_succ, List.getElem?_cons_zero]; rfl) (by rfl) ?_
   apply Exists.intro
   refine ⟨fun wz hw _ => ?_, ?_⟩
   · have hcz := hw.cells.1
     go_simp
     (with_reducible exact Rg.up_value)
   simp only [Act.put, List.setIfInBounds_toArray, List.set_cons_zero, List.set_cons_succ])
  (refine Rr.wr_y (by simp only [List.getElem?_toArray, List.getElem?_cons_succ, List.getElem?_cons_zero]; rfl) (by rfl) ?_
   apply Exists.intro
   refine ⟨fun wz hw _ => ?_, ?_⟩
   · have hcz := hw.cells.1
     go_simp
     (with_reducible exact Rg.up_value)
   simp only [Act.put, List.setIfInBounds_toArray, List.set_cons_zero, List.set_cons_succ])
  (refine Rr.wr_y (by simp only [List.getElem?_toArray, List.getElem?_cons_succ, List.getElem?_cons_zero]; rfl) (by rfl) ?_
   apply Exists.intro
   refine ⟨fun wz hw _ => ?_, ?_⟩
   · have hcz := hw.cells.1
     go_simp
     (with_reducible exact Rg.up_value)
   simp only [Act.put, List.setIfInBounds_toArray, List.set_cons_zero, List.set_cons_succ])
  (refine Rr.wr_y (by simp only [List.getElem?_toArray, List.getElem?_cons_succ, List.getElem?_cons_zero]; rfl) (by rfl) ?_
   apply Exists.intro
   refine ⟨fun wz hw _ => ?_, ?_⟩
   · exact up_row (by rfl) ((hw.block _ (Rg.lt_of_heap HP7.out)).trans HP7.out) Tryz.underlying39 (by rw [List.size_toArray, hrs]; kernel_rfl)
   simp only [Act.put, List.setIfInBounds_toArray, List.set_cons_zero, List.set_cons_succ])
  (refine Rr.wr_y (by simp only [List.getElem?_toArray, List.getElem?_cons_succ, List.getElem?_cons_zero]; rfl) (by rfl) ?_
   apply Exists.intro
   refine ⟨fun wz hw _ => ?_, ?_⟩
   · have hcz := hw.cells.1
     go_simp
     (with_reducible exact Rg.up_value)
   simp only [Act.put, List.setIfInBounds_toArray, List.set_cons_zero, List.set_cons_succ])
  (refine Rr.wr_y (by simp only [List.getElem?_toArray, List.getElem?_cons_succ, List.getElem?_cons_zero]; rfl) (by rfl) ?_
   apply Exists.intro
   refine ⟨fun wz hw _ => ?_, ?_⟩
   · have hcz := hw.cells.1
     go_simp
     (with_reducible exact Rg.up_value)
   simp only [Act.put, List.setIfInBounds_toArray, List.set_cons_zero, List.set_cons_succ])
  (refine Rr.wr_y (by simp only [List.getElem?_toArray, List.getElem?_cons_succ, List.getElem?_cons_zero]; rfl) (by rfl) ?_
   apply Exists.intro
   refine ⟨fun wz hw _ => ?_, ?_⟩
   · exact up_mid (by rfl) (HE1.out wz hw) Tryz.underlying57 (by kernel_rfl)
   simp only [Act.put, List.setIfInBounds_toArray, List.set_cons_zero, List.set_cons_succ])
  (refine Rr.wr_y (by simp only [List.getElem?_toArray, List.getElem?_cons_succ, List.getElem?_cons_zero]; rfl) (by rfl) ?_
   apply Exists.intro
   refine ⟨fun wz hw _ => ?_, ?_⟩
   · have hcz := hw.cells.1
     go_simp
     (with_reducible exact Rg.up_value)
   simp only [Act.put, List.setIfInBounds_toArray, List.set_cons_zero, List.set_cons_succ])
  (refine Rr.wr_y (by simp only [List.getElem?_toArray, List.getElem?_cons_succ, List.getElem?_cons_zero]; rfl) (by rfl) ?_
   apply Exists.intro
   refine ⟨fun wz hw _ => ?_, ?_⟩
   · have hcz := hw.cells.1
     go_simp
     (with_reducible exact Rg.up_value)
   simp only [Act.put, List.setIfInBounds_toArray, List.set_cons_zero, List.set_cons_succ])
  (refine Rr.wr_y (by simp only [List.getElem?_toArray, List.getElem?_cons_succ, List.getElem?_cons_zero]; rfl) (by rfl) ?_
   apply Exists.intro
   refine ⟨fun wz hw _ => ?_, ?_⟩
   · exact up_mid (by rfl) (HE2.out wz hw) Tryz.underlying57 (by kernel_rfl)
   simp only [Act.put, List.setIfInBounds_toArray, List.set_cons_zero, List.set_cons_succ])
  (refine Rr.wr_y (by simp only [List.getElem?_toArray, List.getElem?_cons_succ, List.getElem?_cons_zero]; rfl) (by rfl) ?_
   apply Exists.intro
   refine ⟨fun wz hw _ => ?_, ?_⟩
   · have hcz := hw.cells.1
     exact up_row (by rfl) ((hw.block _ (Rg.lt_of_heap HO7.out)).trans HO7.out) Tryz.underlying30 (by kernel_rfl)
   simp only [Act.put, List.setIfInBounds_toArray, List.set_cons_zero, List.set_cons_succ])
  (refine Rr.wr_y (by simp only [List.getElem?_toArray, List.getElem?_cons_succ, List.getElem?_cons_zero]; rfl) (by rfl) ?_
   apply Exists.intro
   refine ⟨fun wz hw _ => ?_, ?_⟩
   · have hcz := hw.cells.1
     exact up_row (by rfl) ((hw.block _ (Rg.lt_of_heap HO7.out)).trans HO7.out) Tryz.underlying30 (by kernel_rfl)
   simp only [Act.put, List.setIfInBounds_toArray, List.set_cons_zero, List.set_cons_succ])
  (refine Rr.wr_y (by simp only [List.getElem?_toArray, List.getElem?_cons_succ, List.getElem?_cons_zero]; rfl) (by rfl) ?_
   apply Exists.intro
   refine ⟨fun wz hw _ => ?_, ?_⟩
   · have hcz := hw.cells.1
     go_simp
     apply Rg.up_enter
     (with_reducible refine (HBF.out wz hw).mono ?_)
     rintro e w3 ⟨rfl, hb3⟩
     exact ⟨rfl, hb3⟩
   simp only [Act.put, List.setIfInBounds_toArray, List.set_cons_zero, List.set_cons_succ])
  (refine Rr.wr_y (by simp only [List.getElem?_toArray, List.getElem?_cons_succ, List.getElem?_cons_zero]; rfl) (by rfl) ?_
   apply Exists.intro
   refine ⟨fun wz hw _ => ?_, ?_⟩
   · have hcz := hw.cells.1
     go_simp
     (with_reducible exact Rg.up_value)
   simp only [Act.put, List.setIfInBounds_toArray, List.set_cons_zero, List.set_cons_succ])
  (refine Rr.wr_y (by simp only [List.getElem?_toArray, List.getElem?_cons_succ, List.getElem?_cons_zero]; rfl) (by rfl) ?_
   apply Exists.intro
   refine ⟨fun wz hw _ => ?_, ?_⟩
   · have hcz := hw.cells.1
     go_simp
     (with_reducible exact Rg.up_value)
   simp only [Act.put, List.setIfInBounds_toArray, List.set_cons_zero, List.set_cons_succ])
  (refine Rr.wr_y (by simp only [List.getElem?_toArray, List.getElem?_cons_succ, List.getElem?_cons_zero]; rfl) (by rfl) ?_
   apply Exists.intro
   refine ⟨fun wz hw _ => ?_, ?_⟩
   · have hcz := hw.cells.1
     go_simp
     (with_reducible exact Rg.up_value)
   simp only [Act.put, List.setIfInBounds_toArray, List.set_cons_zero, List.set_cons_succ])
  (refine Rr.wr_y (by simp only [List.getElem?_toArray, List.getElem?_cons_succ, List.getElem?_cons_zero]; rfl) (by rfl) ?_
   apply Exists.intro
   refine ⟨fun wz hw _ => ?_, ?_⟩
   · exact up_row (by rfl) ((hw.block _ (Rg.lt_of_heap HP7.out)).trans HP7.out) Tryz.underlying39 (by rw [List.size_toArray, hrs]; kernel_rfl)
   simp only [Act.put, List.setIfInBounds_toArray, List.set_cons_zero, List.set_cons_succ])
  (refine Rr.wr_y (by simp only [List.getElem?_toArray, List.getElem?_cons_succ, List.getElem?_cons_zero]; rfl) (by rfl) ?_
   apply Exists.intro
   refine ⟨fun wz hw _ => ?_, ?_⟩
   · have hcz := hw.cells.1
     go_simp
     (with_reducible exact Rg.up_value)
   simp only [Act.put, List.setIfInBounds_toArray, List.set_cons_zero, List.set_cons_succ])
  (refine Rr.wr_y (by simp only [List.getElem?_toArray, List.getElem?_cons_succ, List.getElem?_cons_zero]; rfl) (by rfl) ?_
   apply Exists.intro
   refine ⟨fun wz hw _ => ?_, ?_⟩
   · have hcz := hw.cells.1
     go_simp
     (with_reducible exact Rg.up_value)
   simp only [Act.put, List.setIfInBounds_toArray, List.set_cons_zero, List.set_cons_succ])
  (refine Rr.wr_y (by simp only [List.getElem?_toArray, List.getElem?_cons_succ, List.getElem?_cons_zero]; rfl) (by rfl) ?_
   apply Exists.intro
   refine ⟨fun wz hw _ => ?_, ?_⟩
   · exact up_mid (by rfl) (HE2.out wz hw) Tryz.underlying57 (by kernel_rfl)
   simp only [Act.put, List.setIfInBounds_toArray, List.set_cons_zero, List.set_cons_succ])
  (refine Rr.wr_y (by simp only [List.getElem?_toArray, List.getElem?_cons_succ, List.getElem?_cons_zero]; rfl) (by rfl) ?_
   apply Exists.intro
   refine ⟨fun wz hw _ => ?_, ?_⟩
   · have hcz := hw.cells.1
     go_simp
     (with_reducible exact Rg.up_value)
   simp only [Act.put, List.setIfInBounds_toArray, List.set_cons_zero, List.set_cons_succ])
  (refine Rr.wr_y (by simp only [List.getElem?_toArray, List.getElem?_cons_succ, List.getElem?_cons_zero]; rfl) (by rfl) ?_
   apply Exists.intro
   refine ⟨fun wz hw _ => ?_, ?_⟩
   · have hcz := hw.cells.1
     go_simp
     (with_reducible exact Rg.up_value)
   simp only [Act.put, List.setIfInBounds_toArray, List.set_cons_zero, List.set_cons_succ])
  (refine Rr.wr_y (by simp only [List.getElem?_toArray, List.getElem?_cons_succ, List.getElem?_cons_zero]; rfl) (by rfl) ?_
   apply Exists.intro
   refine ⟨fun wz hw _ => ?_, ?_⟩
   · exact up_mid (by rfl) (HE1.out wz hw) Tryz.underlying57 (by kernel_rfl)
   simp only [Act.put, List.setIfInBounds_toArray, List.set_cons_zero, List.set_cons_succ])
  (refine Rr.wr_y (by simp only [List.getElem?_toArray, List.getElem?_cons_succ, List.getElem?_cons_zero]; rfl) (by rfl) ?_
   apply Exists.intro
   refine ⟨fun wz hw _ => ?_, ?_⟩
   · have hcz := hw.cells.1
     exact up_row (by rfl) ((hw.block _ (Rg.lt_of_heap HO7.out)).trans HO7.out) Tryz.underlying30 (by kernel_rfl)
   simp only [Act.put, List.setIfInBounds_toArray, List.set_cons_zero, List.set_cons_succ])
  (refine Rr.wr_y (by simp only [List.getElem?_toArray, List.getElem?_cons_succ, List.getElem?_cons_zero]; rfl) (by rfl) ?_
   apply Exists.intro
   refine ⟨fun wz hw _ => ?_, ?_⟩
   · have hcz := hw.cells.1
     exact up_row (by rfl) ((hw.block _ (Rg.lt_of_heap HO7.out)).trans HO7.out) Tryz.underlying30 (by kernel_rfl)
   simp only [Act.put, List.setIfInBounds_toArray, List.set_cons_zero, List.set_cons_succ])
  (refine Rr.wr_y (by simp only [List.getElem?_toArray, List.getElem?_cons_succ, List.getElem?_cons_zero]; rfl) (by rfl) ?_
   apply Exists.intro
   refine ⟨fun wz hw _ => ?_, ?_⟩
   · have hcz := hw.cells.1
     go_simp
     apply Rg.up_enter
     (with_reducible refine (HBT.out wz hw).mono ?_)
     rintro e w3 ⟨rfl, hb3⟩
     exact ⟨rfl, hb3⟩
   simp only [Act.put, List.setIfInBounds_toArray, List.set_cons_zero, List.set_cons_succ])
  (refine Rr.wr_y (by simp only [List.getElem?_toArray, List.getElem?_cons_succ, List.getElem?_cons_zero]; rfl) (by rfl) ?_
   apply Exists.intro
   refine ⟨fun wz hw _ => ?_, ?_⟩
   · have hcz := hw.cells.1
     go_simp
     (with_reducible exact Rg.up_value)
   simp only [Act.put, List.setIfInBounds_toArray, List.set_cons_zero, List.set_cons_succ])
  refine Rr.wr_nil ?_
  intro wy hy hh
  simp only [List.length_cons, List.length_nil, List.drop_succ_cons, List.drop_zero, Nat.reduceAdd]
  clear hh
  go_wp2
  go_ret
  exact ⟨rfl, HXF.out.trans hy⟩
end Go.Proofs.YteomcpplajeidaaGreat
