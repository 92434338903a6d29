/-
  Joined: the lemmas of this claim that other texts of it use, part 8. Nothing is asked.
-/
import Derived.Test.YtgkdeknfmmgbdaaJnG
import Derived.Laws.AppendOwnNone
namespace Go.Proofs.Ytgkdeknfmmgbdaa
set_option linter.unusedVariables false
set_option linter.unusedSimpArgs false
open Go.RowKit

/-- The reference's quotient. -/
def refQuo (a b : Int × Int) : (Int × Int) × Bool := if b.1 = 0 then ((0, 1), false) else refOp a b (a.1 * sgn (decide (b.1 < 0)) b.2) (a.2 * sizeZ b.1)
theorem refQuo_no {a b : Int × Int} (h : (rightB a.1 a.2 && rightB b.1 b.2) = false ∨ b.1 = 0) : refQuo a b = ((0, 1), false) := by
  unfold refQuo
  by_cases h0 : b.1 = 0
  · rw [if_pos h0]
  · rw [if_neg h0]
    unfold refOp
    rw [if_neg (by rw [h.resolve_right h0]; simp)]
theorem quo_neg {a1 a2 b1 b2 : Int} (h : b1 < 0) : normS (a1 * sgn (decide (b1 < 0)) b2) (a2 * sizeZ b1) = normS (-(a1 * b2)) (-(a2 * b1)) := by
  rw [decide_eq_true h]
  unfold sgn sizeZ
  rw [if_pos rfl, if_pos h, Int.mul_neg, Int.mul_neg]
theorem quo_pos {a1 a2 b1 b2 : Int} (h : 0 < b1) : normS (a1 * sgn (decide (b1 < 0)) b2) (a2 * sizeZ b1) = normS (a1 * b2) (a2 * b1) := by
  rw [decide_eq_false (by omega)]
  unfold sgn sizeZ
  rw [if_neg (by simp), if_neg (by omega)]
theorem quo_val {a1 a2 b1 b2 x y : Int} {s : Bool} (ha : 0 < a2) (hb : b1 ≠ 0) (hy : 0 ≤ y) (hm : sgn (decide (a2 < 0) != decide (b1 < 0)) y = a2 * b1) (hn : sgn s x = a1 * b2) :
    y = a2 * sizeZ b1 ∧ 0 < a2 * sizeZ b1 ∧ sgn (s != (decide (a2 < 0) != decide (b1 < 0))) x = a1 * sgn (decide (b1 < 0)) b2 := by
  rw [decide_eq_false (show ¬ a2 < 0 by omega), show ∀ z : Bool, (false != z) = z by intro z; cases z <;> rfl] at hm ⊢
  by_cases h : b1 < 0
  · rw [decide_eq_true h] at hm ⊢
    have hz : sizeZ b1 = -b1 := by unfold sizeZ; rw [if_pos h]
    have hy2 : y = a2 * sizeZ b1 := by
      rw [hz, Int.mul_neg, ← hm]
      unfold sgn
      simp
    refine ⟨hy2, ?_, ?_⟩
    · rw [hz]; exact Int.mul_pos ha (by omega)
    · have : sgn (s != true) x = -sgn s x := by unfold sgn; cases s <;> simp
      rw [this, hn]
      unfold sgn
      simp [Int.mul_neg]
  · rw [decide_eq_false h] at hm ⊢
    have hz : sizeZ b1 = b1 := by unfold sizeZ; rw [if_neg h]
    refine ⟨?_, ?_, ?_⟩
    · rw [hz, ← hm]; rfl
    · rw [hz]; exact Int.mul_pos ha (by omega)
    · rw [show ∀ z : Bool, (z != false) = z by intro z; cases z <;> rfl, hn]; rfl

set_option maxRecDepth 100000 in
set_option maxHeartbeats 1000000 in
theorem rQuo_any (a b : Int × Int) (ha : OkR a) (hb : OkR b) (w : World) :
    Calls Try.prog 28 #[rv a, rv b] w fun e w' => e = .returned (rbv (refQuo a b)) ∧ Ext w w' := by
  have HBO := Lib.hid (fun W => rboth_any a b ha hb W)
  have HTI := Lib.hid (fun W => tiny_any a b W)
  obtain ⟨hxb, h2, h3⟩ := rbox2 (w := w) (a := a) (b := b)
  obtain ⟨W1, hW1⟩ : ∃ W1, W1 = (((w.alloc (.cells #[.int .i64 a.1, .int .i64 a.2] 26)).alloc (.cells #[.int .i64 b.1, .int .i64 b.2] 26)).alloc (.cells #[.int .i64 0, .int .i64 0] 26)) := ⟨_, rfl⟩
  have hx1 : Ext w W1 := by rw [hW1]; exact Ext.alloc hxb _
  have k2 : W1.heap[w.heap.size]? = some (.cells #[.int .i64 a.1, .int .i64 a.2] 26) := by rw [hW1, Below.heap_alloc _ _ _ (Rg.lt_of_heap h2)]; exact h2
  have k3 : W1.heap[w.heap.size + 1]? = some (.cells #[.int .i64 b.1, .int .i64 b.2] 26) := by rw [hW1, Below.heap_alloc _ _ _ (Rg.lt_of_heap h3)]; exact h3
  have k4 : W1.heap[w.heap.size + 1 + 1]? = some (.cells #[.int .i64 0, .int .i64 0] 26) := by rw [hW1]; exact block_new (by simp)
  clear hxb h2 h3
  obtain ⟨a1, a2⟩ := a
  obtain ⟨b1, b2⟩ := b
  simp only at k2 k3 k4 hW1
  have HC : Hid (∀ W, Ext W1 W → W.cell? ⟨w.heap.size, 0, none⟩ = some (.int .i64 a1) ∧ W.cell? ⟨w.heap.size, 1, none⟩ = some (.int .i64 a2) ∧ w.heap.size < W.heap.size ∧ W.cell? ⟨w.heap.size + 1, 0, none⟩ = some (.int .i64 b1) ∧ W.cell? ⟨w.heap.size + 1, 1, none⟩ = some (.int .i64 b2) ∧ w.heap.size + 1 < W.heap.size ∧ W.heap[w.heap.size + 1 + 1]? = some (.cells #[.int .i64 0, .int .i64 0] 26)) := Lib.hid fun W hW => by
    obtain ⟨c0, c1, cl⟩ := rcell (a := (a1, a2)) ((hW.block _ (Rg.lt_of_heap k2)).trans k2)
    obtain ⟨d0, d1, dl⟩ := rcell (a := (b1, b2)) ((hW.block _ (Rg.lt_of_heap k3)).trans k3)
    exact ⟨c0, c1, cl, d0, d1, dl, (hW.block _ (Rg.lt_of_heap k4)).trans k4⟩
  have HX1 := Lib.hid hx1
  have HA := Lib.hid ha; have HB := Lib.hid hb
  clear ha hb k2 k3 k4 hx1
  unfold tinyB at HTI
  simp only at HBO HTI ⊢
  go_enter Try.func28, Try.ntmps28
  go_upto_region 1 with (fail)
  rw [← hW1]
  clear hW1
  obtain ⟨p2, hp2⟩ : ∃ p2, p2 = w.heap.size := ⟨_, rfl⟩
  obtain ⟨p3, hp3⟩ : ∃ p3, p3 = w.heap.size + 1 := ⟨_, rfl⟩
  obtain ⟨p4, hp4⟩ : ∃ p4, p4 = w.heap.size + 1 + 1 := ⟨_, rfl⟩
  rw [← hp4, ← hp3, ← hp2] at HC ⊢
  have HP4 := Lib.hid (show w.heap.size ≤ p4 by omega)
  clear hp2 hp3 hp4
  obtain ⟨c0, c1, cl, d0, d1, dl, -⟩ := HC.out W1 (Ext.refl _)
  obtain ⟨rr, hrr⟩ : ∃ rr, rr = (rightB a1 a2 && rightB b1 b2) := ⟨_, rfl⟩
  rw [← hrr] at HBO
  cases rr
  · have HRES : Hid (refQuo (a1, a2) (b1, b2) = ((0, 1), false)) := Lib.hid (refQuo_no (.inl (hrr.symm)))
    clear HTI hrr
    go_wp2_with (first
      | (go_at_call 50; (with_reducible refine (HBO.out _).mono ?_); rintro e w2 ⟨rfl, hx2⟩)
      | (go_at_call 29; (with_reducible refine (refOf_any _ _).mono ?_); rintro e w9 ⟨rfl, hx9⟩; obtain ⟨hc9, hf9, hl9⟩ := Rg.cells_of (HC.out w9 (hx2.trans hx9)).2.2.2.2.2.2))
    have hp4 := HP4.out
    have hxx := HX1.out.trans (hx2.trans hx9)
    exact bodyPost_ret (v := rbv ((0, 1), false)) (by simp [results, Try.results28, go_sem, hc9, hf9]) rfl ⟨by rw [HRES.out], (by with_reducible repeat (first | exact Ext.refl _ | assumption | apply Ext.drewN | apply Ext.drew | apply Ext.alloc | (refine Ext.setCell ?_ (by simp <;> omega) _) | (refine Ext.trans ?_ (by assumption))))⟩
  · have hr1 := (Bool.and_eq_true_iff.1 hrr.symm).1
    have hr2 := (Bool.and_eq_true_iff.1 hrr.symm).2
    obtain ⟨ha2, hga⟩ := (rightB_iff _ _).1 hr1
    obtain ⟨hb2, hgb⟩ := (rightB_iff _ _).1 hr2
    by_cases hb0 : b1 = 0
    · have HRES : Hid (refQuo (a1, a2) (b1, b2) = ((0, 1), false)) := Lib.hid (refQuo_no (.inr hb0))
      subst hb0
      clear HTI hrr
      go_wp2_with (first
        | (go_at_call 50; (with_reducible refine (HBO.out _).mono ?_); rintro e w2 ⟨rfl, hx2⟩; obtain ⟨e0, e1, el, f0, f1, fl, -⟩ := HC.out w2 hx2)
        | (go_at_call 29; (with_reducible refine (refOf_any _ _).mono ?_); rintro e w9 ⟨rfl, hx9⟩; obtain ⟨hc9, hf9, hl9⟩ := Rg.cells_of (HC.out w9 (hx2.trans hx9)).2.2.2.2.2.2))
      have hp4 := HP4.out
      have hxx := HX1.out.trans (hx2.trans hx9)
      exact bodyPost_ret (v := rbv ((0, 1), false)) (by simp [results, Try.results28, go_sem, hc9, hf9]) rfl ⟨by rw [HRES.out], (by with_reducible repeat (first | exact Ext.refl _ | assumption | apply Ext.drewN | apply Ext.drew | apply Ext.alloc | (refine Ext.setCell ?_ (by simp <;> omega) _) | (refine Ext.trans ?_ (by assumption))))⟩
    have HRR : Hid (refQuo (a1, a2) (b1, b2) = normS (a1 * sgn (decide (b1 < 0)) b2) (a2 * sizeZ b1)) := Lib.hid ((if_neg hb0).trans (if_pos hrr.symm))
    clear hrr hr1 hr2 hga hgb
    have HPA := Lib.hid ha2; have HPB := Lib.hid hb2
    clear ha2 hb2
    obtain ⟨tb, htb⟩ : ∃ tb, tb = (smB a1 && smB a2 && smB b1 && smB b2) := ⟨_, rfl⟩
    rw [← htb] at HTI
    have HTB := Lib.hid htb
    clear htb
    go_upto_region 3 with (go_at_call 50; (with_reducible refine (HBO.out _).mono ?_); rintro e w2 ⟨rfl, hx2⟩; obtain ⟨e0, e1, el, f0, f1, fl, -⟩ := HC.out w2 hx2)
    have HX2 := Lib.hid hx2
    clear c0 c1 cl d0 d1 dl hx2 HBO e0 e1 el f0 f1 fl
    obtain ⟨c0, c1, cl, d0, d1, dl, -⟩ := HC.out w2 HX2.out
    cases tb
    · go_upto_region 5 with (go_at_call 51; (with_reducible refine (HTI.out _).mono ?_); rintro e w3 ⟨rfl, hx3⟩)
      have HX3 := Lib.hid (HX2.out.trans hx3)
      clear c0 c1 cl d0 d1 dl hx3 HX2 HTI
      obtain ⟨c0, c1, cl, d0, d1, dl, -⟩ := HC.out w3 HX3.out
      have HO1 := Lib.hid (fun W => bof_any a1 W HA.out.1 HA.out.2.1)
      have HO2 := Lib.hid (fun W => bof_any a2 W HA.out.2.2.1 HA.out.2.2.2)
      have HO3 := Lib.hid (fun W => bof_any b1 W HB.out.1 HB.out.2.1)
      have HO4 := Lib.hid (fun W => bof_any b2 W HB.out.2.2.1 HB.out.2.2.2)
      have L1 : (ofL (a1.natAbs : Int)).length ≤ 4 := (of_val HA.out.1 HA.out.2.1).2.2.2.1
      have L2 : (ofL (a2.natAbs : Int)).length ≤ 4 := (of_val HA.out.2.2.1 HA.out.2.2.2).2.2.2.1
      have L3 : (ofL (b1.natAbs : Int)).length ≤ 4 := (of_val HB.out.1 HB.out.2.1).2.2.2.1
      have L4 : (ofL (b2.natAbs : Int)).length ≤ 4 := (of_val HB.out.2.2.1 HB.out.2.2.2).2.2.2.1
      obtain ⟨-, n2, n3⟩ := mul_val (a := a1) (b := b2) ⟨HA.out.1, HA.out.2.1⟩ ⟨HB.out.2.2.1, HB.out.2.2.2⟩
      obtain ⟨m1, m2, m3⟩ := mul_val (a := a2) (b := b1) ⟨HA.out.2.2.1, HA.out.2.2.2⟩ ⟨HB.out.1, HB.out.2.1⟩
      obtain ⟨hdv, hdp, hsv⟩ := quo_val HPA.out hb0 (dv_nonneg m1) m2 n2
      have HLO := Lib.hid (fun W v u (hv : BgR W v (decide (a1 < 0) != decide (b2 < 0)) (timesL (ofL a1.natAbs) (ofL b2.natAbs))) (hu : BgR W u (decide (a2 < 0) != decide (b1 < 0)) (timesL (ofL a2.natAbs) (ofL b1.natAbs))) => blowest_any _ _ _ _ W v u hv hu (by omega) (by omega) (by rw [hdv]; exact hdp))
      rw [hdv, hsv] at HLO
      have HM1 := Lib.hid (fun W v u (hv : BgR W v (decide (a1 < 0)) (ofL a1.natAbs)) (hu : BgR W u (decide (b2 < 0)) (ofL b2.natAbs)) => bmul_any (decide (a1 < 0)) (decide (b2 < 0)) (ofL a1.natAbs) (ofL b2.natAbs) W v u hv hu (by omega) (by omega))
      have HM2 := Lib.hid (fun W v u (hv : BgR W v (decide (a2 < 0)) (ofL a2.natAbs)) (hu : BgR W u (decide (b1 < 0)) (ofL b1.natAbs)) => bmul_any (decide (a2 < 0)) (decide (b1 < 0)) (ofL a2.natAbs) (ofL b1.natAbs) W v u hv hu (by omega) (by omega))
      clear L1 L2 L3 L4 n2 n3 m1 m2 m3 hdp hdv hsv
      obtain ⟨⟨⟨r1, r2⟩, r3⟩, hnr⟩ : ∃ nr : (Int × Int) × Bool, nr = normS (a1 * sgn (decide (b1 < 0)) b2) (a2 * sizeZ b1) := ⟨_, rfl⟩
      rw [← hnr] at HLO
      have HRES := Lib.hid (HRR.out.trans hnr.symm)
      clear hnr HRR
      simp only at HLO
      refine Rr.wp_regionE [16] [(0, .y), (1, .y), (3, .y), (4, .y), (7, .y), (8, .y), (10, .y), (11, .y), (2, .z), (5, .z), (6, .z), (9, .z), (12, .z), (13, .z), (14, .y), (15, .y), (16, .y)] (fun _ => (.cells #[] 29, Rg.ptr)) (fun c a d v w h => by have h' : _ ∧ _ := h; exact ⟨(Rr.put_defers a d v).symm.trans h'.1, h'.2⟩) (by kernel_rfl) (by kernel_rfl) ?_
      (refine Rr.wr_y (by simp only [List.getElem?_toArray, List.getElem?_cons_succ, List.getElem?_cons_zero]; rfl) (by rfl) ?_
       apply Exists.intro
       refine ⟨fun wz hw _ => ?_, ?_⟩
       · have hcz := hw.cells.1
         go_simp
         (with_reducible exact Rg.up_value)
       simp only [Act.put, List.setIfInBounds_toArray, List.set_cons_zero, List.set_cons_succ])
      (refine Rr.wr_y (by simp only [List.getElem?_toArray, List.getElem?_cons_succ, List.getElem?_cons_zero]; rfl) (by rfl) ?_
       apply Exists.intro
       refine ⟨fun wz hw _ => ?_, ?_⟩
       · have hcz := hw.cells.1
         go_simp
         (with_reducible exact Rg.up_value)
       simp only [Act.put, List.setIfInBounds_toArray, List.set_cons_zero, List.set_cons_succ])
      (refine Rr.wr_y (by simp only [List.getElem?_toArray, List.getElem?_cons_succ, List.getElem?_cons_zero]; rfl) (by rfl) ?_
       apply Exists.intro
       refine ⟨fun wz hw _ => ?_, ?_⟩
       · have hcz := hw.cells.1
         go_simp
         (with_reducible exact Rg.up_value)
       simp only [Act.put, List.setIfInBounds_toArray, List.set_cons_zero, List.set_cons_succ])
      (refine Rr.wr_y (by simp only [List.getElem?_toArray, List.getElem?_cons_succ, List.getElem?_cons_zero]; rfl) (by rfl) ?_
       apply Exists.intro
       refine ⟨fun wz hw _ => ?_, ?_⟩
       · have hcz := hw.cells.1
         go_simp
         (with_reducible exact Rg.up_value)
       simp only [Act.put, List.setIfInBounds_toArray, List.set_cons_zero, List.set_cons_succ])
      (refine Rr.wr_y (by simp only [List.getElem?_toArray, List.getElem?_cons_succ, List.getElem?_cons_zero]; rfl) (by rfl) ?_
       apply Exists.intro
       refine ⟨fun wz hw _ => ?_, ?_⟩
       · have hcz := hw.cells.1
         go_simp
         (with_reducible exact Rg.up_value)
       simp only [Act.put, List.setIfInBounds_toArray, List.set_cons_zero, List.set_cons_succ])
      (refine Rr.wr_y (by simp only [List.getElem?_toArray, List.getElem?_cons_succ, List.getElem?_cons_zero]; rfl) (by rfl) ?_
       apply Exists.intro
       refine ⟨fun wz hw _ => ?_, ?_⟩
       · have hcz := hw.cells.1
         go_simp
         (with_reducible exact Rg.up_value)
       simp only [Act.put, List.setIfInBounds_toArray, List.set_cons_zero, List.set_cons_succ])
      (refine Rr.wr_y (by simp only [List.getElem?_toArray, List.getElem?_cons_succ, List.getElem?_cons_zero]; rfl) (by rfl) ?_
       apply Exists.intro
       refine ⟨fun wz hw _ => ?_, ?_⟩
       · have hcz := hw.cells.1
         go_simp
         (with_reducible exact Rg.up_value)
       simp only [Act.put, List.setIfInBounds_toArray, List.set_cons_zero, List.set_cons_succ])
      (refine Rr.wr_y (by simp only [List.getElem?_toArray, List.getElem?_cons_succ, List.getElem?_cons_zero]; rfl) (by rfl) ?_
       apply Exists.intro
       refine ⟨fun wz hw _ => ?_, ?_⟩
       · have hcz := hw.cells.1
         go_simp
         (with_reducible exact Rg.up_value)
       simp only [Act.put, List.setIfInBounds_toArray, List.set_cons_zero, List.set_cons_succ])
      refine Rr.wr_z (fun v w' => BgR w' v (decide (a1 < 0)) (ofL a1.natAbs)) (by simp only [List.getElem?_toArray, List.getElem?_cons_succ, List.getElem?_cons_zero]; rfl) (by rfl) (fun v w1 w2 h e => by first | exact Rd.ext e h | exact h.ext e) (fun wz hw hh => ?_) (fun u => ?_)
      · have hcz := hw.cells.1
        go_simp
        apply Rr.upR_enter
        (with_reducible refine (HO1.out wz).mono ?_)
        rintro e w3 ⟨v3, rfl, hx3, hr3⟩
        exact ⟨v3, rfl, hx3, hr3⟩
      simp only [Act.put, List.setIfInBounds_toArray, List.set_cons_zero, List.set_cons_succ]
      refine Rr.wr_z (fun v w' => BgR w' v (decide (b2 < 0)) (ofL b2.natAbs)) (by simp only [List.getElem?_toArray, List.getElem?_cons_succ, List.getElem?_cons_zero]; rfl) (by rfl) (fun v w1 w2 h e => by first | exact Rd.ext e h | exact h.ext e) (fun wz hw hh => ?_) (fun u => ?_)
      · have hcz := hw.cells.1
        go_simp
        apply Rr.upR_enter
        (with_reducible refine (HO4.out wz).mono ?_)
        rintro e w3 ⟨v3, rfl, hx3, hr3⟩
        exact ⟨v3, rfl, hx3, hr3⟩
      simp only [Act.put, List.setIfInBounds_toArray, List.set_cons_zero, List.set_cons_succ]
      refine Rr.wr_z (fun v w' => BgR w' v (decide (a1 < 0) != decide (b2 < 0)) (timesL (ofL a1.natAbs) (ofL b2.natAbs))) (by simp only [List.getElem?_toArray, List.getElem?_cons_succ, List.getElem?_cons_zero]; rfl) (by rfl) (fun v w1 w2 h e => by first | exact Rd.ext e h | exact h.ext e) (fun wz hw hh => ?_) (fun u => ?_)
      · have hcz := hw.cells.1
        go_simp
        apply Rr.upR_enter
        (with_reducible refine (HM1.out wz _ _ (hold1 hh) (hold0 hh)).mono ?_)
        rintro e w3 ⟨v3, rfl, hx3, hr3⟩
        exact ⟨v3, rfl, hx3, hr3⟩
      simp only [Act.put, List.setIfInBounds_toArray, List.set_cons_zero, List.set_cons_succ]
      refine Rr.wr_z (fun v w' => BgR w' v (decide (a2 < 0)) (ofL a2.natAbs)) (by simp only [List.getElem?_toArray, List.getElem?_cons_succ, List.getElem?_cons_zero]; rfl) (by rfl) (fun v w1 w2 h e => by first | exact Rd.ext e h | exact h.ext e) (fun wz hw hh => ?_) (fun u => ?_)
      · have hcz := hw.cells.1
        go_simp
        apply Rr.upR_enter
        (with_reducible refine (HO2.out wz).mono ?_)
        rintro e w3 ⟨v3, rfl, hx3, hr3⟩
        exact ⟨v3, rfl, hx3, hr3⟩
      simp only [Act.put, List.setIfInBounds_toArray, List.set_cons_zero, List.set_cons_succ]
      refine Rr.wr_z (fun v w' => BgR w' v (decide (b1 < 0)) (ofL b1.natAbs)) (by simp only [List.getElem?_toArray, List.getElem?_cons_succ, List.getElem?_cons_zero]; rfl) (by rfl) (fun v w1 w2 h e => by first | exact Rd.ext e h | exact h.ext e) (fun wz hw hh => ?_) (fun u => ?_)
      · have hcz := hw.cells.1
        go_simp
        apply Rr.upR_enter
        (with_reducible refine (HO3.out wz).mono ?_)
        rintro e w3 ⟨v3, rfl, hx3, hr3⟩
        exact ⟨v3, rfl, hx3, hr3⟩
      simp only [Act.put, List.setIfInBounds_toArray, List.set_cons_zero, List.set_cons_succ]
      refine Rr.wr_z (fun v w' => BgR w' v (decide (a2 < 0) != decide (b1 < 0)) (timesL (ofL a2.natAbs) (ofL b1.natAbs))) (by simp only [List.getElem?_toArray, List.getElem?_cons_succ, List.getElem?_cons_zero]; rfl) (by rfl) (fun v w1 w2 h e => by first | exact Rd.ext e h | exact h.ext e) (fun wz hw hh => ?_) (fun u => ?_)
      · have hcz := hw.cells.1
        go_simp
        apply Rr.upR_enter
        (with_reducible refine (HM2.out wz _ _ (hold1 hh) (hold0 hh)).mono ?_)
        rintro e w3 ⟨v3, rfl, hx3, hr3⟩
        exact ⟨v3, rfl, hx3, hr3⟩
      simp only [Act.put, List.setIfInBounds_toArray, List.set_cons_zero, List.set_cons_succ]
      refine Rr.wr_y (by simp only [List.getElem?_toArray, List.getElem?_cons_succ, List.getElem?_cons_zero]; rfl) (by rfl) ⟨.tuple #[.agg #[.int .i64 r1, .int .i64 r2], .bool r3], fun wz hw hh => ?_, ?_⟩
      · go_simp
        apply Rg.up_enter
        (with_reducible refine (HLO.out wz _ _ (hold3 hh) (hold0 hh)).mono ?_)
        rintro e w4 ⟨rfl, hb4⟩
        exact ⟨rfl, hb4⟩
      simp only [Act.put, List.setIfInBounds_toArray, List.set_cons_zero, List.set_cons_succ]
      (refine Rr.wr_y (by simp only [List.getElem?_toArray, List.getElem?_cons_succ, List.getElem?_cons_zero]; rfl) (by rfl) ?_
       apply Exists.intro
       refine ⟨fun wz hw _ => ?_, ?_⟩
       · have hcz := hw.cells.1
         go_simp
         (with_reducible exact Rg.up_value)
       simp only [Act.put, List.setIfInBounds_toArray, List.set_cons_zero, List.set_cons_succ])
      (refine Rr.wr_y (by simp only [List.getElem?_toArray, List.getElem?_cons_succ, List.getElem?_cons_zero]; rfl) (by rfl) ?_
       apply Exists.intro
       refine ⟨fun wz hw _ => ?_, ?_⟩
       · have hcz := hw.cells.1
         go_simp
         (with_reducible exact Rg.up_value)
       simp only [Act.put, List.setIfInBounds_toArray, List.set_cons_zero, List.set_cons_succ])
      refine Rr.wr_nil ?_
      intro wy hy hh
      simp only [List.length_cons, List.length_nil, List.drop_succ_cons, List.drop_zero, Nat.reduceAdd]
      have h40 := (HC.out wy (HX3.out.trans hy)).2.2.2.2.2.2
      refine wpList_store_row (hgd := rfl) 26 (.tmp 4) (.tmp 45) rfl p4 (by rfl) #[.int .i64 r1, .int .i64 r2] (by rfl) #[.int .i64 0, .int .i64 0] 26 h40 (by rfl) (by kernel_rfl) (by simp [Value.oneCell']) ?_
      have hbc := setRow_heap wy p4 _ #[.int .i64 r1, .int .i64 r2] 26 _ h40
      have hxc : Ext w (wy.setRow p4 #[.int .i64 r1, .int .i64 r2]) := below_setRow (HX1.out.trans (HX3.out.trans hy)) HP4.out #[.int .i64 r1, .int .i64 r2]
      generalize wy.setRow p4 #[.int .i64 r1, .int .i64 r2] = W9 at *
      obtain ⟨hc9, hf9, hl9⟩ := Rg.cells_of hbc
      clear hh h40 hbc hy c0 c1 cl d0 d1 dl
      go_wp2_with (fail)
      exact bodyPost_ret (v := rbv ((r1, r2), r3)) (by simp [results, Try.results28, go_sem, hc9, hf9]) rfl ⟨by rw [HRES.out], hxc⟩
    · have hsm : (smB a1 && smB a2 && smB b1 && smB b2) = true := HTB.out.symm
      simp only [Bool.and_eq_true, smB_iff] at hsm
      obtain ⟨⟨⟨s1, s2⟩, s3⟩, s4⟩ := hsm
      have b1' := sm_mul s1 s4
      have b2' := sm_mul s2 s3
      have kw1 : IntKind.i64.wrap (a1 * b2) = a1 * b2 := by rw [IntKind.wrap_i64]; omega
      have kw2 : IntKind.i64.wrap (a2 * b1) = a2 * b1 := by rw [IntKind.wrap_i64]; omega
      by_cases hneg : b1 < 0
      · skip
        have hdp : 0 < -(a2 * b1) := by have := Int.mul_neg_of_pos_of_neg HPA.out hneg; omega
        have HQ := Lib.hid (fun W => quick_m (a1 * b2) (a2 * b1) (by omega) (by omega) W)
        have HNQ := Lib.hid (quick_norm (n := -(a1 * b2)) (d := -(a2 * b1)) hdp (by omega) (by omega))
        rw [← quo_neg hneg] at HNQ
        clear s1 s2 s3 s4 b1' b2' hdp
        obtain ⟨⟨r1, r2⟩, hnr⟩ : ∃ nr : Int × Int, nr = quickZ (-(a1 * b2)) (-(a2 * b1)) := ⟨_, rfl⟩
        rw [← hnr] at HQ HNQ
        have HRES := Lib.hid (HRR.out.trans HNQ.out)
        clear hnr HRR HNQ
        go_wp2_with (first
          | (go_at_call 51; (with_reducible refine (HTI.out _).mono ?_); rintro e w3 ⟨rfl, hx3⟩; obtain ⟨e0, e1, el, f0, f1, fl, -⟩ := HC.out w3 (HX2.out.trans hx3))
          | (go_at_call 52; (with_reducible refine (HQ.out _).mono ?_); rintro e w9 ⟨rfl, hx9⟩; obtain ⟨hc9, hf9, hl9⟩ := Rg.cells_of (HC.out w9 (HX2.out.trans (hx3.trans hx9))).2.2.2.2.2.2))
        have hp4 := HP4.out
        have hxx := HX1.out.trans (HX2.out.trans (hx3.trans hx9))
        exact bodyPost_ret (v := rbv ((r1, r2), true)) (by simp [results, Try.results28, go_sem, hc9, hf9]) rfl ⟨by rw [HRES.out], (by with_reducible repeat (first | exact Ext.refl _ | assumption | apply Ext.drewN | apply Ext.drew | apply Ext.alloc | (refine Ext.setCell ?_ (by simp <;> omega) _) | (refine Ext.trans ?_ (by assumption))))⟩
      · have hpos : 0 < b1 := by omega
        have hdp : 0 < a2 * b1 := Int.mul_pos HPA.out hpos
        have HQ := Lib.hid (fun W => quick_p (a1 * b2) (a2 * b1) (by omega) (by omega) W)
        have HNQ := Lib.hid (quick_norm (n := a1 * b2) (d := a2 * b1) hdp (by omega) (by omega))
        rw [← quo_pos hpos] at HNQ
        clear s1 s2 s3 s4 b1' b2' hdp
        obtain ⟨⟨r1, r2⟩, hnr⟩ : ∃ nr : Int × Int, nr = quickZ (a1 * b2) (a2 * b1) := ⟨_, rfl⟩
        rw [← hnr] at HQ HNQ
        have HRES := Lib.hid (HRR.out.trans HNQ.out)
        clear hnr HRR HNQ
        go_wp2_with (first
          | (go_at_call 51; (with_reducible refine (HTI.out _).mono ?_); rintro e w3 ⟨rfl, hx3⟩; obtain ⟨e0, e1, el, f0, f1, fl, -⟩ := HC.out w3 (HX2.out.trans hx3))
          | (go_at_call 52; (with_reducible refine (HQ.out _).mono ?_); rintro e w9 ⟨rfl, hx9⟩; obtain ⟨hc9, hf9, hl9⟩ := Rg.cells_of (HC.out w9 (HX2.out.trans (hx3.trans hx9))).2.2.2.2.2.2))
        have hp4 := HP4.out
        have hxx := HX1.out.trans (HX2.out.trans (hx3.trans hx9))
        exact bodyPost_ret (v := rbv ((r1, r2), true)) (by simp [results, Try.results28, go_sem, hc9, hf9]) rfl ⟨by rw [HRES.out], (by with_reducible repeat (first | exact Ext.refl _ | assumption | apply Ext.drewN | apply Ext.drew | apply Ext.alloc | (refine Ext.setCell ?_ (by simp <;> omega) _) | (refine Ext.trans ?_ (by assumption))))⟩
end Go.Proofs.Ytgkdeknfmmgbdaa

namespace Go.Proofs.Ytgkdeknfmmgbdaa
set_option linter.unusedVariables false
set_option linter.unusedSimpArgs false
open Go.RowKit

theorem sgn_not (t : Bool) (x : Int) : sgn (!t) x = -sgn t x := by unfold sgn; cases t <;> simp
theorem DR.setr {w : World} {v : Value} {l : List Int} (h : DR w v l) {p : Nat} {a : Bool} {x : Option Addr} {y z : Nat} (hp : w.heap[p]? = some (.cells #[.bool a, .slice x y z] 97)) (cs : Array Value) : DR (w.setRow p cs) v l := by
  obtain ⟨A, cap, h1, h2, h3, h4, h5⟩ := h
  refine ⟨A, cap, h1, h2, h3, h4, h5.imp id fun ⟨b, off, ha, hc⟩ => ⟨b, off, ha, fun k hk => ?_⟩⟩
  have hk' := hc k hk
  have hbp : b ≠ p := by
    rintro rfl
    rw [(Rg.cells_of hp).1] at hk'
    generalize off + k = q at hk'
    rcases q with _ | _ | q
    · simp at hk'
    · simp at hk'
    · simp at hk'
  rw [← hk']
  exact World.cell?_of_block (setRow_other w p b cs hbp)

set_option maxRecDepth 100000 in
set_option maxHeartbeats 1000000 in
theorem rSub_any (a b : Int × Int) (ha : OkR a) (hb : OkR b) (w : World) :
    Calls Try.prog 26 #[rv a, rv b] w fun e w' => e = .returned (rbv (refOp a b (a.1 * b.2 - b.1 * a.2) (a.2 * b.2))) ∧ Ext w w' := by
  have HBO := Lib.hid (fun W => rboth_any a b ha hb W)
  have HTI := Lib.hid (fun W => tiny_any a b W)
  obtain ⟨hxb, h2, h3⟩ := rbox2 (w := w) (a := a) (b := b)
  obtain ⟨W1, hW1⟩ : ∃ W1, W1 = (((w.alloc (.cells #[.int .i64 a.1, .int .i64 a.2] 26)).alloc (.cells #[.int .i64 b.1, .int .i64 b.2] 26)).alloc (.cells #[.int .i64 0, .int .i64 0] 26)) := ⟨_, rfl⟩
  have hx1 : Ext w W1 := by rw [hW1]; exact Ext.alloc hxb _
  have k2 : W1.heap[w.heap.size]? = some (.cells #[.int .i64 a.1, .int .i64 a.2] 26) := by rw [hW1, Below.heap_alloc _ _ _ (Rg.lt_of_heap h2)]; exact h2
  have k3 : W1.heap[w.heap.size + 1]? = some (.cells #[.int .i64 b.1, .int .i64 b.2] 26) := by rw [hW1, Below.heap_alloc _ _ _ (Rg.lt_of_heap h3)]; exact h3
  have k4 : W1.heap[w.heap.size + 1 + 1]? = some (.cells #[.int .i64 0, .int .i64 0] 26) := by rw [hW1]; exact block_new (by simp)
  clear hxb h2 h3
  obtain ⟨a1, a2⟩ := a
  obtain ⟨b1, b2⟩ := b
  simp only at k2 k3 k4 hW1
  have HC : Hid (∀ W, Ext W1 W → W.cell? ⟨w.heap.size, 0, none⟩ = some (.int .i64 a1) ∧ W.cell? ⟨w.heap.size, 1, none⟩ = some (.int .i64 a2) ∧ w.heap.size < W.heap.size ∧ W.cell? ⟨w.heap.size + 1, 0, none⟩ = some (.int .i64 b1) ∧ W.cell? ⟨w.heap.size + 1, 1, none⟩ = some (.int .i64 b2) ∧ w.heap.size + 1 < W.heap.size ∧ W.heap[w.heap.size + 1 + 1]? = some (.cells #[.int .i64 0, .int .i64 0] 26)) := Lib.hid fun W hW => by
    obtain ⟨c0, c1, cl⟩ := rcell (a := (a1, a2)) ((hW.block _ (Rg.lt_of_heap k2)).trans k2)
    obtain ⟨d0, d1, dl⟩ := rcell (a := (b1, b2)) ((hW.block _ (Rg.lt_of_heap k3)).trans k3)
    exact ⟨c0, c1, cl, d0, d1, dl, (hW.block _ (Rg.lt_of_heap k4)).trans k4⟩
  have HX1 := Lib.hid hx1
  have HA := Lib.hid ha; have HB := Lib.hid hb
  clear ha hb k2 k3 k4 hx1
  unfold tinyB at HTI
  simp only at HBO HTI ⊢
  go_enter Try.func26, Try.ntmps26
  go_upto_region 1 with (fail)
  rw [← hW1]
  clear hW1
  obtain ⟨p2, hp2⟩ : ∃ p2, p2 = w.heap.size := ⟨_, rfl⟩
  obtain ⟨p3, hp3⟩ : ∃ p3, p3 = w.heap.size + 1 := ⟨_, rfl⟩
  obtain ⟨p4, hp4⟩ : ∃ p4, p4 = w.heap.size + 1 + 1 := ⟨_, rfl⟩
  rw [← hp4, ← hp3, ← hp2] at HC ⊢
  have HP4 := Lib.hid (show w.heap.size ≤ p4 by omega)
  clear hp2 hp3 hp4
  obtain ⟨c0, c1, cl, d0, d1, dl, -⟩ := HC.out W1 (Ext.refl _)
  obtain ⟨rr, hrr⟩ : ∃ rr, rr = (rightB a1 a2 && rightB b1 b2) := ⟨_, rfl⟩
  rw [← hrr] at HBO
  cases rr
  · have HRES : Hid (refOp (a1, a2) (b1, b2) (a1 * b2 - b1 * a2) (a2 * b2) = ((0, 1), false)) := Lib.hid (if_neg (by rw [← hrr]; simp))
    clear HTI hrr
    go_wp2_with (first
      | (go_at_call 50; (with_reducible refine (HBO.out _).mono ?_); rintro e w2 ⟨rfl, hx2⟩)
      | (go_at_call 29; (with_reducible refine (refOf_any _ _).mono ?_); rintro e w9 ⟨rfl, hx9⟩; obtain ⟨hc9, hf9, hl9⟩ := Rg.cells_of (HC.out w9 (hx2.trans hx9)).2.2.2.2.2.2))
    have hp4 := HP4.out
    have hxx := HX1.out.trans (hx2.trans hx9)
    exact bodyPost_ret (v := rbv ((0, 1), false)) (by simp [results, Try.results26, go_sem, hc9, hf9]) rfl ⟨by rw [HRES.out], (by with_reducible repeat (first | exact Ext.refl _ | assumption | apply Ext.drewN | apply Ext.drew | apply Ext.alloc | (refine Ext.setCell ?_ (by simp <;> omega) _) | (refine Ext.trans ?_ (by assumption))))⟩
  · have hr1 := (Bool.and_eq_true_iff.1 hrr.symm).1
    have hr2 := (Bool.and_eq_true_iff.1 hrr.symm).2
    obtain ⟨ha2, hga⟩ := (rightB_iff _ _).1 hr1
    obtain ⟨hb2, hgb⟩ := (rightB_iff _ _).1 hr2
    have HRR : Hid (refOp (a1, a2) (b1, b2) (a1 * b2 - b1 * a2) (a2 * b2) = normS (a1 * b2 - b1 * a2) (a2 * b2)) := Lib.hid (if_pos hrr.symm)
    clear hrr hr1 hr2 hga hgb
    have HPA := Lib.hid ha2; have HPB := Lib.hid hb2
    clear ha2 hb2
    obtain ⟨tb, htb⟩ : ∃ tb, tb = (smB a1 && smB a2 && smB b1 && smB b2) := ⟨_, rfl⟩
    rw [← htb] at HTI
    have HTB := Lib.hid htb
    clear htb
    go_upto_region 3 with (go_at_call 50; (with_reducible refine (HBO.out _).mono ?_); rintro e w2 ⟨rfl, hx2⟩)
    have HX2 := Lib.hid hx2
    clear c0 c1 cl d0 d1 dl hx2 HBO
    obtain ⟨c0, c1, cl, d0, d1, dl, -⟩ := HC.out w2 HX2.out
    cases tb
    · go_upto_region 5 with (go_at_call 51; (with_reducible refine (HTI.out _).mono ?_); rintro e w3 ⟨rfl, hx3⟩)
      have HX3 := Lib.hid (HX2.out.trans hx3)
      clear c0 c1 cl d0 d1 dl hx3 HX2 HTI
      obtain ⟨c0, c1, cl, d0, d1, dl, -⟩ := HC.out w3 HX3.out
      have HO1 := Lib.hid (fun W => bof_any a1 W HA.out.1 HA.out.2.1)
      have HO2 := Lib.hid (fun W => bof_any a2 W HA.out.2.2.1 HA.out.2.2.2)
      have HO3 := Lib.hid (fun W => bof_any b1 W HB.out.1 HB.out.2.1)
      have HO4 := Lib.hid (fun W => bof_any b2 W HB.out.2.2.1 HB.out.2.2.2)
      have L1 : (ofL (a1.natAbs : Int)).length ≤ 4 := (of_val HA.out.1 HA.out.2.1).2.2.2.1
      have L2 : (ofL (a2.natAbs : Int)).length ≤ 4 := (of_val HA.out.2.2.1 HA.out.2.2.2).2.2.2.1
      have L3 : (ofL (b1.natAbs : Int)).length ≤ 4 := (of_val HB.out.1 HB.out.2.1).2.2.2.1
      have L4 : (ofL (b2.natAbs : Int)).length ≤ 4 := (of_val HB.out.2.2.1 HB.out.2.2.2).2.2.2.1
      obtain ⟨n1, n2, n3⟩ := mul_val (a := a1) (b := b2) ⟨HA.out.1, HA.out.2.1⟩ ⟨HB.out.2.2.1, HB.out.2.2.2⟩
      obtain ⟨o1, o2, o3⟩ := mul_val (a := b1) (b := a2) ⟨HB.out.1, HB.out.2.1⟩ ⟨HA.out.2.2.1, HA.out.2.2.2⟩
      obtain ⟨-, m2, m3⟩ := mul_val (a := a2) (b := b2) ⟨HA.out.2.2.1, HA.out.2.2.2⟩ ⟨HB.out.2.2.1, HB.out.2.2.2⟩
      have hda : (decide (a2 < 0) != decide (b2 < 0)) = false := by rw [decide_eq_false (by have := HPA.out; omega), decide_eq_false (by have := HPB.out; omega)]; rfl
      have hdp : 0 < a2 * b2 := Int.mul_pos HPA.out HPB.out
      have hdv : dv (timesL (ofL a2.natAbs) (ofL b2.natAbs)) = a2 * b2 := by rw [hda] at m2; exact m2
      obtain ⟨-, u2, u3⟩ := sum_val (s := decide (a1 < 0) != decide (b2 < 0)) (t := !(decide (b1 < 0) != decide (a2 < 0))) n1 o1
      rw [n2, sgn_not, o2] at u2
      have HSU := Lib.hid (fun W v u (hv : BgR W v (decide (a1 < 0) != decide (b2 < 0)) (timesL (ofL a1.natAbs) (ofL b2.natAbs))) (hu : BgR W u (!(decide (b1 < 0) != decide (a2 < 0))) (timesL (ofL b1.natAbs) (ofL a2.natAbs))) => badd_any (decide (a1 < 0) != decide (b2 < 0)) (!(decide (b1 < 0) != decide (a2 < 0))) (timesL (ofL a1.natAbs) (ofL b2.natAbs)) (timesL (ofL b1.natAbs) (ofL a2.natAbs)) W v u hv hu (by omega) (by omega))
      obtain ⟨⟨bs, bl⟩, hbs⟩ : ∃ x : Bool × List Int, x = bgSum (decide (a1 < 0) != decide (b2 < 0)) (!(decide (b1 < 0) != decide (a2 < 0))) (timesL (ofL a1.natAbs) (ofL b2.natAbs)) (timesL (ofL b1.natAbs) (ofL a2.natAbs)) := ⟨_, rfl⟩
      rw [← hbs] at u2 u3 HSU
      simp only at u2 u3 HSU
      clear hbs
      have HLO := Lib.hid (fun W v u (hv : BgR W v bs bl) (hu : BgR W u (decide (a2 < 0) != decide (b2 < 0)) (timesL (ofL a2.natAbs) (ofL b2.natAbs))) => blowest_any _ _ _ _ W v u hv hu (by omega) (by omega) (by rw [hdv]; exact hdp))
      rw [hdv, show sgn (bs != (decide (a2 < 0) != decide (b2 < 0))) (dv bl) = a1 * b2 - b1 * a2 by rw [hda, show ∀ x : Bool, (x != false) = x by intro x; cases x <;> rfl]; rw [u2]; omega] at HLO
      have HM1 := Lib.hid (fun W v u (hv : BgR W v (decide (a1 < 0)) (ofL a1.natAbs)) (hu : BgR W u (decide (b2 < 0)) (ofL b2.natAbs)) => bmul_any (decide (a1 < 0)) (decide (b2 < 0)) (ofL a1.natAbs) (ofL b2.natAbs) W v u hv hu (by omega) (by omega))
      have HM3 := Lib.hid (fun W v u (hv : BgR W v (decide (b1 < 0)) (ofL b1.natAbs)) (hu : BgR W u (decide (a2 < 0)) (ofL a2.natAbs)) => bmul_any (decide (b1 < 0)) (decide (a2 < 0)) (ofL b1.natAbs) (ofL a2.natAbs) W v u hv hu (by omega) (by omega))
      have HM2 := Lib.hid (fun W v u (hv : BgR W v (decide (a2 < 0)) (ofL a2.natAbs)) (hu : BgR W u (decide (b2 < 0)) (ofL b2.natAbs)) => bmul_any (decide (a2 < 0)) (decide (b2 < 0)) (ofL a2.natAbs) (ofL b2.natAbs) W v u hv hu (by omega) (by omega))
      clear L1 L2 L3 L4 n1 n2 n3 o1 o2 o3 m2 m3 u2 u3 hda hdp hdv
      obtain ⟨⟨⟨r1, r2⟩, r3⟩, hnr⟩ : ∃ nr : (Int × Int) × Bool, nr = normS (a1 * b2 - b1 * a2) (a2 * b2) := ⟨_, rfl⟩
      rw [← hnr] at HLO
      have HRES := Lib.hid (HRR.out.trans hnr.symm)
      clear hnr HRR
      simp only at HLO
      refine Rr.wp_region [(0, .y), (1, .y), (3, .y), (4, .y), (2, .z), (5, .z), (6, .z), (7, .m)] (fun _ => (.cells #[.bool false, .slice none 0 0] 97, Rg.ptr)) (by kernel_rfl) (by kernel_rfl) ?_
      (refine Rr.wr_y (by simp only [List.getElem?_toArray, List.getElem?_cons_succ, List.getElem?_cons_zero]; rfl) (by rfl) ?_
       apply Exists.intro
       refine ⟨fun wz hw _ => ?_, ?_⟩
       · have hcz := hw.cells.1
         go_simp
         (with_reducible exact Rg.up_value)
       simp only [Act.put, List.setIfInBounds_toArray, List.set_cons_zero, List.set_cons_succ])
      (refine Rr.wr_y (by simp only [List.getElem?_toArray, List.getElem?_cons_succ, List.getElem?_cons_zero]; rfl) (by rfl) ?_
       apply Exists.intro
       refine ⟨fun wz hw _ => ?_, ?_⟩
       · have hcz := hw.cells.1
         go_simp
         (with_reducible exact Rg.up_value)
       simp only [Act.put, List.setIfInBounds_toArray, List.set_cons_zero, List.set_cons_succ])
      (refine Rr.wr_y (by simp only [List.getElem?_toArray, List.getElem?_cons_succ, List.getElem?_cons_zero]; rfl) (by rfl) ?_
       apply Exists.intro
       refine ⟨fun wz hw _ => ?_, ?_⟩
       · have hcz := hw.cells.1
         go_simp
         (with_reducible exact Rg.up_value)
       simp only [Act.put, List.setIfInBounds_toArray, List.set_cons_zero, List.set_cons_succ])
      (refine Rr.wr_y (by simp only [List.getElem?_toArray, List.getElem?_cons_succ, List.getElem?_cons_zero]; rfl) (by rfl) ?_
       apply Exists.intro
       refine ⟨fun wz hw _ => ?_, ?_⟩
       · have hcz := hw.cells.1
         go_simp
         (with_reducible exact Rg.up_value)
       simp only [Act.put, List.setIfInBounds_toArray, List.set_cons_zero, List.set_cons_succ])
      refine Rr.wr_z (fun v w' => BgR w' v (decide (b1 < 0)) (ofL b1.natAbs)) (by simp only [List.getElem?_toArray, List.getElem?_cons_succ, List.getElem?_cons_zero]; rfl) (by rfl) (fun v w1 w2 h e => by first | exact Rd.ext e h | exact h.ext e) (fun wz hw hh => ?_) (fun u => ?_)
      · have hcz := hw.cells.1
        go_simp
        apply Rr.upR_enter
        (with_reducible refine (HO3.out wz).mono ?_)
        rintro e w3 ⟨v3, rfl, hx3, hr3⟩
        exact ⟨v3, rfl, hx3, hr3⟩
      simp only [Act.put, List.setIfInBounds_toArray, List.set_cons_zero, List.set_cons_succ]
      refine Rr.wr_z (fun v w' => BgR w' v (decide (a2 < 0)) (ofL a2.natAbs)) (by simp only [List.getElem?_toArray, List.getElem?_cons_succ, List.getElem?_cons_zero]; rfl) (by rfl) (fun v w1 w2 h e => by first | exact Rd.ext e h | exact h.ext e) (fun wz hw hh => ?_) (fun u => ?_)
      · have hcz := hw.cells.1
        go_simp
        apply Rr.upR_enter
        (with_reducible refine (HO2.out wz).mono ?_)
        rintro e w3 ⟨v3, rfl, hx3, hr3⟩
        exact ⟨v3, rfl, hx3, hr3⟩
      simp only [Act.put, List.setIfInBounds_toArray, List.set_cons_zero, List.set_cons_succ]
      refine Rr.wr_z (fun v w' => BgR w' v (decide (b1 < 0) != decide (a2 < 0)) (timesL (ofL b1.natAbs) (ofL a2.natAbs))) (by simp only [List.getElem?_toArray, List.getElem?_cons_succ, List.getElem?_cons_zero]; rfl) (by rfl) (fun v w1 w2 h e => by first | exact Rd.ext e h | exact h.ext e) (fun wz hw hh => ?_) (fun u => ?_)
      · have hcz := hw.cells.1
        go_simp
        apply Rr.upR_enter
        (with_reducible refine (HM3.out wz _ _ (hold1 hh) (hold0 hh)).mono ?_)
        rintro e w3 ⟨v3, rfl, hx3, hr3⟩
        exact ⟨v3, rfl, hx3, hr3⟩
      simp only [Act.put, List.setIfInBounds_toArray, List.set_cons_zero, List.set_cons_succ]
      refine Rr.wr_m (by simp only [List.getElem?_toArray, List.getElem?_cons_succ, List.getElem?_cons_zero]; rfl) (by rfl) (fun wz => by go_simp) (fun pm hpm => ?_)
      simp only [Act.put, List.setIfInBounds_toArray, List.set_cons_zero, List.set_cons_succ]
      refine Rr.wr_nil ?_
      intro wy hy hh
      simp only [List.length_cons, List.length_nil, List.drop_succ_cons, List.drop_zero, Nat.reduceAdd]
      obtain ⟨hb1, hb2⟩ := hh _ List.mem_cons_self
      obtain ⟨⟨xA, xn, xc⟩, hxe, hxd⟩ := hold1 hh
      subst hxe
      generalize (decide (b1 < 0) != decide (a2 < 0)) = sm at *
      generalize timesL (ofL b1.natAbs) (ofL a2.natAbs) = tm at *
      refine wpList_store_row (hgd := rfl) 97 (.tmp 6) (.tmp 38) rfl pm (by rfl) #[.bool sm, slV (xA, xn, xc)] (by rfl) #[.bool false, .slice none 0 0] 97 hb2 (by rfl) (by kernel_rfl) (by simp [Value.oneCell', slV]) ?_
      have hbc := setRow_heap wy pm _ #[.bool sm, slV (xA, xn, xc)] 97 _ hb2
      have hxc := below_setRow hy hb1 #[.bool sm, slV (xA, xn, xc)]
      have hxd2 := DR.setr hxd hb2 #[.bool sm, slV (xA, xn, xc)]
      generalize wy.setRow pm #[.bool sm, slV (xA, xn, xc)] = W5 at *
      clear hh hb2 hxd hy c0 c1 cl d0 d1 dl
      obtain ⟨hc5, hf5, hl5⟩ := Rg.cells_of hbc
      have g0 : W5.cell? ⟨pm, 0, none⟩ = some (.bool sm) := hc5 0
      have gf := hf5 0
      go_upto_region 7 with (fail)
      have hb6 : (W5.setCell ⟨pm, 0, none⟩ (.bool (!sm))).heap[pm]? = some (.cells #[.bool (!sm), slV (xA, xn, xc)] 97) := heap_setCell_same W5 pm 0 _ 97 _ hbc
      have hx6 : Ext w3 (W5.setCell ⟨pm, 0, none⟩ (.bool (!sm))) := Below.setCell hxc hb1 _
      have hd6 := DR.set (a := sm) (x := xA) (y := xn) (z := xc) hxd2 hbc 0 (.bool (!sm))
      generalize W5.setCell ⟨pm, 0, none⟩ (.bool (!sm)) = W6 at *
      have HMI : Hid (BgR W6 (.agg #[.bool (!sm), slV (xA, xn, xc)]) (!sm) tm) := Lib.hid ⟨(xA, xn, xc), rfl, hd6⟩
      have HX3' := Lib.hid (HX3.out.trans hx6)
      clear HX3 hbc hxc hxd2 hc5 hf5 hl5 g0 gf hx6 hd6 hb1
      have HX3 := HX3'
      clear HX3'
      obtain ⟨c0, c1, cl, d0, d1, dl, -⟩ := HC.out W6 HX3.out
      refine Rr.wp_regionE [18] [(0, .y), (1, .y), (3, .y), (4, .y), (7, .y), (9, .y), (10, .y), (12, .y), (13, .y), (2, .z), (5, .z), (6, .z), (8, .z), (11, .z), (14, .z), (15, .z), (16, .y), (17, .y), (18, .y)] (fun _ => (.cells #[] 29, Rg.ptr)) (fun c a d v w h => by have h' : _ ∧ _ := h; exact ⟨(Rr.put_defers a d v).symm.trans h'.1, h'.2⟩) (by kernel_rfl) (by kernel_rfl) ?_
      (refine Rr.wr_y (by simp only [List.getElem?_toArray, List.getElem?_cons_succ, List.getElem?_cons_zero]; rfl) (by rfl) ?_
       apply Exists.intro
       refine ⟨fun wz hw _ => ?_, ?_⟩
       · have hcz := hw.cells.1
         go_simp
         (with_reducible exact Rg.up_value)
       simp only [Act.put, List.setIfInBounds_toArray, List.set_cons_zero, List.set_cons_succ])
      (refine Rr.wr_y (by simp only [List.getElem?_toArray, List.getElem?_cons_succ, List.getElem?_cons_zero]; rfl) (by rfl) ?_
       apply Exists.intro
       refine ⟨fun wz hw _ => ?_, ?_⟩
       · have hcz := hw.cells.1
         go_simp
         (with_reducible exact Rg.up_value)
       simp only [Act.put, List.setIfInBounds_toArray, List.set_cons_zero, List.set_cons_succ])
      (refine Rr.wr_y (by simp only [List.getElem?_toArray, List.getElem?_cons_succ, List.getElem?_cons_zero]; rfl) (by rfl) ?_
       apply Exists.intro
       refine ⟨fun wz hw _ => ?_, ?_⟩
       · have hcz := hw.cells.1
         go_simp
         (with_reducible exact Rg.up_value)
       simp only [Act.put, List.setIfInBounds_toArray, List.set_cons_zero, List.set_cons_succ])
      (refine Rr.wr_y (by simp only [List.getElem?_toArray, List.getElem?_cons_succ, List.getElem?_cons_zero]; rfl) (by rfl) ?_
       apply Exists.intro
       refine ⟨fun wz hw _ => ?_, ?_⟩
       · have hcz := hw.cells.1
         go_simp
         (with_reducible exact Rg.up_value)
       simp only [Act.put, List.setIfInBounds_toArray, List.set_cons_zero, List.set_cons_succ])
      (refine Rr.wr_y (by simp only [List.getElem?_toArray, List.getElem?_cons_succ, List.getElem?_cons_zero]; rfl) (by rfl) ?_
       apply Exists.intro
       refine ⟨fun wz hw _ => ?_, ?_⟩
       · have hcz := hw.cells.1
         exact up_row (by rfl) ((hw.block _ (Rg.lt_of_heap hb6)).trans hb6) Try.underlying97 (by kernel_rfl)
       simp only [Act.put, List.setIfInBounds_toArray, List.set_cons_zero, List.set_cons_succ])
      (refine Rr.wr_y (by simp only [List.getElem?_toArray, List.getElem?_cons_succ, List.getElem?_cons_zero]; rfl) (by rfl) ?_
       apply Exists.intro
       refine ⟨fun wz hw _ => ?_, ?_⟩
       · have hcz := hw.cells.1
         go_simp
         (with_reducible exact Rg.up_value)
       simp only [Act.put, List.setIfInBounds_toArray, List.set_cons_zero, List.set_cons_succ])
      (refine Rr.wr_y (by simp only [List.getElem?_toArray, List.getElem?_cons_succ, List.getElem?_cons_zero]; rfl) (by rfl) ?_
       apply Exists.intro
       refine ⟨fun wz hw _ => ?_, ?_⟩
       · have hcz := hw.cells.1
         go_simp
         (with_reducible exact Rg.up_value)
       simp only [Act.put, List.setIfInBounds_toArray, List.set_cons_zero, List.set_cons_succ])
      (refine Rr.wr_y (by simp only [List.getElem?_toArray, List.getElem?_cons_succ, List.getElem?_cons_zero]; rfl) (by rfl) ?_
       apply Exists.intro
       refine ⟨fun wz hw _ => ?_, ?_⟩
       · have hcz := hw.cells.1
         go_simp
         (with_reducible exact Rg.up_value)
       simp only [Act.put, List.setIfInBounds_toArray, List.set_cons_zero, List.set_cons_succ])
      (refine Rr.wr_y (by simp only [List.getElem?_toArray, List.getElem?_cons_succ, List.getElem?_cons_zero]; rfl) (by rfl) ?_
       apply Exists.intro
       refine ⟨fun wz hw _ => ?_, ?_⟩
       · have hcz := hw.cells.1
         go_simp
         (with_reducible exact Rg.up_value)
       simp only [Act.put, List.setIfInBounds_toArray, List.set_cons_zero, List.set_cons_succ])
      refine Rr.wr_z (fun v w' => BgR w' v (decide (a1 < 0)) (ofL a1.natAbs)) (by simp only [List.getElem?_toArray, List.getElem?_cons_succ, List.getElem?_cons_zero]; rfl) (by rfl) (fun v w1 w2 h e => by first | exact Rd.ext e h | exact h.ext e) (fun wz hw hh => ?_) (fun u => ?_)
      · have hcz := hw.cells.1
        go_simp
        apply Rr.upR_enter
        (with_reducible refine (HO1.out wz).mono ?_)
        rintro e w3 ⟨v3, rfl, hx3, hr3⟩
        exact ⟨v3, rfl, hx3, hr3⟩
      simp only [Act.put, List.setIfInBounds_toArray, List.set_cons_zero, List.set_cons_succ]
      refine Rr.wr_z (fun v w' => BgR w' v (decide (b2 < 0)) (ofL b2.natAbs)) (by simp only [List.getElem?_toArray, List.getElem?_cons_succ, List.getElem?_cons_zero]; rfl) (by rfl) (fun v w1 w2 h e => by first | exact Rd.ext e h | exact h.ext e) (fun wz hw hh => ?_) (fun u => ?_)
      · have hcz := hw.cells.1
        go_simp
        apply Rr.upR_enter
        (with_reducible refine (HO4.out wz).mono ?_)
        rintro e w3 ⟨v3, rfl, hx3, hr3⟩
        exact ⟨v3, rfl, hx3, hr3⟩
      simp only [Act.put, List.setIfInBounds_toArray, List.set_cons_zero, List.set_cons_succ]
      refine Rr.wr_z (fun v w' => BgR w' v (decide (a1 < 0) != decide (b2 < 0)) (timesL (ofL a1.natAbs) (ofL b2.natAbs))) (by simp only [List.getElem?_toArray, List.getElem?_cons_succ, List.getElem?_cons_zero]; rfl) (by rfl) (fun v w1 w2 h e => by first | exact Rd.ext e h | exact h.ext e) (fun wz hw hh => ?_) (fun u => ?_)
      · have hcz := hw.cells.1
        go_simp
        apply Rr.upR_enter
        (with_reducible refine (HM1.out wz _ _ (hold1 hh) (hold0 hh)).mono ?_)
        rintro e w3 ⟨v3, rfl, hx3, hr3⟩
        exact ⟨v3, rfl, hx3, hr3⟩
      simp only [Act.put, List.setIfInBounds_toArray, List.set_cons_zero, List.set_cons_succ]
      refine Rr.wr_z (fun v w' => BgR w' v bs bl) (by simp only [List.getElem?_toArray, List.getElem?_cons_succ, List.getElem?_cons_zero]; rfl) (by rfl) (fun v w1 w2 h e => by first | exact Rd.ext e h | exact h.ext e) (fun wz hw hh => ?_) (fun u => ?_)
      · have hcz := hw.cells.1
        go_simp
        apply Rr.upR_enter
        (with_reducible refine (HSU.out wz _ _ (hold0 hh) (HMI.out.ext hw)).mono ?_)
        rintro e w3 ⟨v3, rfl, hx3, hr3⟩
        exact ⟨v3, rfl, hx3, hr3⟩
      simp only [Act.put, List.setIfInBounds_toArray, List.set_cons_zero, List.set_cons_succ]
      refine Rr.wr_z (fun v w' => BgR w' v (decide (a2 < 0)) (ofL a2.natAbs)) (by simp only [List.getElem?_toArray, List.getElem?_cons_succ, List.getElem?_cons_zero]; rfl) (by rfl) (fun v w1 w2 h e => by first | exact Rd.ext e h | exact h.ext e) (fun wz hw hh => ?_) (fun u => ?_)
      · have hcz := hw.cells.1
        go_simp
        apply Rr.upR_enter
        (with_reducible refine (HO2.out wz).mono ?_)
        rintro e w3 ⟨v3, rfl, hx3, hr3⟩
        exact ⟨v3, rfl, hx3, hr3⟩
      simp only [Act.put, List.setIfInBounds_toArray, List.set_cons_zero, List.set_cons_succ]
      refine Rr.wr_z (fun v w' => BgR w' v (decide (b2 < 0)) (ofL b2.natAbs)) (by simp only [List.getElem?_toArray, List.getElem?_cons_succ, List.getElem?_cons_zero]; rfl) (by rfl) (fun v w1 w2 h e => by first | exact Rd.ext e h | exact h.ext e) (fun wz hw hh => ?_) (fun u => ?_)
      · have hcz := hw.cells.1
        go_simp
        apply Rr.upR_enter
        (with_reducible refine (HO4.out wz).mono ?_)
        rintro e w3 ⟨v3, rfl, hx3, hr3⟩
        exact ⟨v3, rfl, hx3, hr3⟩
      simp only [Act.put, List.setIfInBounds_toArray, List.set_cons_zero, List.set_cons_succ]
      refine Rr.wr_z (fun v w' => BgR w' v (decide (a2 < 0) != decide (b2 < 0)) (timesL (ofL a2.natAbs) (ofL b2.natAbs))) (by simp only [List.getElem?_toArray, List.getElem?_cons_succ, List.getElem?_cons_zero]; rfl) (by rfl) (fun v w1 w2 h e => by first | exact Rd.ext e h | exact h.ext e) (fun wz hw hh => ?_) (fun u => ?_)
      · have hcz := hw.cells.1
        go_simp
        apply Rr.upR_enter
        (with_reducible refine (HM2.out wz _ _ (hold1 hh) (hold0 hh)).mono ?_)
        rintro e w3 ⟨v3, rfl, hx3, hr3⟩
        exact ⟨v3, rfl, hx3, hr3⟩
      simp only [Act.put, List.setIfInBounds_toArray, List.set_cons_zero, List.set_cons_succ]
      clear hb6
      refine Rr.wr_y (by simp only [List.getElem?_toArray, List.getElem?_cons_succ, List.getElem?_cons_zero]; rfl) (by rfl) ⟨.tuple #[.agg #[.int .i64 r1, .int .i64 r2], .bool r3], fun wz hw hh => ?_, ?_⟩
      · go_simp
        apply Rg.up_enter
        (with_reducible refine (HLO.out wz _ _ (hold3 hh) (hold0 hh)).mono ?_)
        rintro e w4 ⟨rfl, hb4⟩
        exact ⟨rfl, hb4⟩
      simp only [Act.put, List.setIfInBounds_toArray, List.set_cons_zero, List.set_cons_succ]
      (refine Rr.wr_y (by simp only [List.getElem?_toArray, List.getElem?_cons_succ, List.getElem?_cons_zero]; rfl) (by rfl) ?_
       apply Exists.intro
       refine ⟨fun wz hw _ => ?_, ?_⟩
       · have hcz := hw.cells.1
         go_simp
         (with_reducible exact Rg.up_value)
       simp only [Act.put, List.setIfInBounds_toArray, List.set_cons_zero, List.set_cons_succ])
      (refine Rr.wr_y (by simp only [List.getElem?_toArray, List.getElem?_cons_succ, List.getElem?_cons_zero]; rfl) (by rfl) ?_
       apply Exists.intro
       refine ⟨fun wz hw _ => ?_, ?_⟩
       · have hcz := hw.cells.1
         go_simp
         (with_reducible exact Rg.up_value)
       simp only [Act.put, List.setIfInBounds_toArray, List.set_cons_zero, List.set_cons_succ])
      refine Rr.wr_nil ?_
      intro wy hy hh
      simp only [List.length_cons, List.length_nil, List.drop_succ_cons, List.drop_zero, Nat.reduceAdd]
      have h40 := (HC.out wy (HX3.out.trans hy)).2.2.2.2.2.2
      refine wpList_store_row (hgd := rfl) 26 (.tmp 4) (.tmp 60) rfl p4 (by rfl) #[.int .i64 r1, .int .i64 r2] (by rfl) #[.int .i64 0, .int .i64 0] 26 h40 (by rfl) (by kernel_rfl) (by simp [Value.oneCell']) ?_
      have hbc := setRow_heap wy p4 _ #[.int .i64 r1, .int .i64 r2] 26 _ h40
      have hxc : Ext w (wy.setRow p4 #[.int .i64 r1, .int .i64 r2]) := below_setRow (HX1.out.trans (HX3.out.trans hy)) HP4.out #[.int .i64 r1, .int .i64 r2]
      generalize wy.setRow p4 #[.int .i64 r1, .int .i64 r2] = W9 at *
      obtain ⟨hc9, hf9, hl9⟩ := Rg.cells_of hbc
      clear hh h40 hbc hy c0 c1 cl d0 d1 dl
      go_wp2_with (fail)
      exact bodyPost_ret (v := rbv ((r1, r2), r3)) (by simp [results, Try.results26, go_sem, hc9, hf9]) rfl ⟨by rw [HRES.out], hxc⟩
    · have hsm : (smB a1 && smB a2 && smB b1 && smB b2) = true := HTB.out.symm
      simp only [Bool.and_eq_true, smB_iff] at hsm
      obtain ⟨⟨⟨s1, s2⟩, s3⟩, s4⟩ := hsm
      have b1' := sm_mul s1 s4
      have b3' := sm_mul s3 s2
      have b2' := sm_mul s2 s4
      have hdp : 0 < a2 * b2 := Int.mul_pos HPA.out HPB.out
      have kw1 : IntKind.i64.wrap (a1 * b2) = a1 * b2 := by rw [IntKind.wrap_i64]; omega
      have kw3 : IntKind.i64.wrap (b1 * a2) = b1 * a2 := by rw [IntKind.wrap_i64]; omega
      have kw4 : IntKind.i64.wrap (a1 * b2 - b1 * a2) = a1 * b2 - b1 * a2 := by rw [IntKind.wrap_i64]; omega
      have kw2 : IntKind.i64.wrap (a2 * b2) = a2 * b2 := by rw [IntKind.wrap_i64]; omega
      have HQ := Lib.hid (fun W => quick_p (a1 * b2 - b1 * a2) (a2 * b2) (by omega) (by omega) W)
      have HNQ := Lib.hid (quick_norm (n := a1 * b2 - b1 * a2) hdp (by omega) (by omega))
      clear s1 s2 s3 s4 b1' b2' b3' hdp
      obtain ⟨⟨r1, r2⟩, hnr⟩ : ∃ nr : Int × Int, nr = quickZ (a1 * b2 - b1 * a2) (a2 * b2) := ⟨_, rfl⟩
      rw [← hnr] at HQ HNQ
      have HRES := Lib.hid (HRR.out.trans HNQ.out)
      clear hnr HRR HNQ
      go_wp2_with (first
        | (go_at_call 51; (with_reducible refine (HTI.out _).mono ?_); rintro e w3 ⟨rfl, hx3⟩; obtain ⟨e0, e1, el, f0, f1, fl, -⟩ := HC.out w3 (HX2.out.trans hx3))
        | (go_at_call 52; (with_reducible refine (HQ.out _).mono ?_); rintro e w9 ⟨rfl, hx9⟩; obtain ⟨hc9, hf9, hl9⟩ := Rg.cells_of (HC.out w9 (HX2.out.trans (hx3.trans hx9))).2.2.2.2.2.2))
      have hp4 := HP4.out
      have hxx := HX1.out.trans (HX2.out.trans (hx3.trans hx9))
      exact bodyPost_ret (v := rbv ((r1, r2), true)) (by simp [results, Try.results26, go_sem, hc9, hf9]) rfl ⟨by rw [HRES.out], (by with_reducible repeat (first | exact Ext.refl _ | assumption | apply Ext.drewN | apply Ext.drew | apply Ext.alloc | (refine Ext.setCell ?_ (by simp <;> omega) _) | (refine Ext.trans ?_ (by assumption))))⟩
end Go.Proofs.Ytgkdeknfmmgbdaa

namespace Go.Proofs.Ytgkdeknfmmgbdaa
set_option linter.unusedVariables false
set_option linter.unusedSimpArgs false
open Go.RowKit

/-- The reference's comparison of two numbers. -/
def refCmp (a b : Int × Int) : Int := if (rightB a.1 a.2 && rightB b.1 b.2) = true then (if a.1 * b.2 - b.1 * a.2 = 0 then 0 else if a.1 * b.2 - b.1 * a.2 < 0 then -1 else 1) else 0

set_option maxRecDepth 100000 in
set_option maxHeartbeats 1000000 in
theorem rCmp_any (a b : Int × Int) (ha : OkR a) (hb : OkR b) (w : World) :
    Calls Try.prog 98 #[rv a, rv b] w fun e w' => e = .returned (.int .i64 (refCmp a b)) ∧ Ext w w' := by
  have HBO := Lib.hid (fun W => rboth_any a b ha hb W)
  obtain ⟨hxb, h2, h3⟩ := rbox2 (w := w) (a := a) (b := b)
  obtain ⟨W1, hW1⟩ : ∃ W1, W1 = ((w.alloc (.cells #[.int .i64 a.1, .int .i64 a.2] 26)).alloc (.cells #[.int .i64 b.1, .int .i64 b.2] 26)) := ⟨_, rfl⟩
  have hx1 : Ext w W1 := by rw [hW1]; exact hxb
  have k2 : W1.heap[w.heap.size]? = some (.cells #[.int .i64 a.1, .int .i64 a.2] 26) := by rw [hW1]; exact h2
  have k3 : W1.heap[w.heap.size + 1]? = some (.cells #[.int .i64 b.1, .int .i64 b.2] 26) := by rw [hW1]; exact h3
  clear hxb h2 h3
  obtain ⟨a1, a2⟩ := a
  obtain ⟨b1, b2⟩ := b
  simp only at k2 k3 hW1
  have HC : Hid (∀ W, Ext W1 W → W.cell? ⟨w.heap.size, 0, none⟩ = some (.int .i64 a1) ∧ W.cell? ⟨w.heap.size, 1, none⟩ = some (.int .i64 a2) ∧ w.heap.size < W.heap.size ∧ W.cell? ⟨w.heap.size + 1, 0, none⟩ = some (.int .i64 b1) ∧ W.cell? ⟨w.heap.size + 1, 1, none⟩ = some (.int .i64 b2) ∧ w.heap.size + 1 < W.heap.size) := Lib.hid fun W hW => by
    obtain ⟨c0, c1, cl⟩ := rcell (a := (a1, a2)) ((hW.block _ (Rg.lt_of_heap k2)).trans k2)
    obtain ⟨d0, d1, dl⟩ := rcell (a := (b1, b2)) ((hW.block _ (Rg.lt_of_heap k3)).trans k3)
    exact ⟨c0, c1, cl, d0, d1, dl⟩
  have HX1 := Lib.hid hx1
  have HA := Lib.hid ha; have HB := Lib.hid hb
  clear ha hb k2 k3 hx1
  simp only at HBO ⊢
  go_enter Try.func98, Try.ntmps98
  go_upto_region 1 with (fail)
  rw [← hW1]
  clear hW1
  obtain ⟨p2, hp2⟩ : ∃ p2, p2 = w.heap.size := ⟨_, rfl⟩
  obtain ⟨p3, hp3⟩ : ∃ p3, p3 = w.heap.size + 1 := ⟨_, rfl⟩
  rw [← hp3, ← hp2] at HC ⊢
  have HP2 := Lib.hid (show w.heap.size ≤ p2 by omega)
  clear hp2 hp3
  obtain ⟨c0, c1, cl, d0, d1, dl⟩ := HC.out W1 (Ext.refl _)
  obtain ⟨rr, hrr⟩ : ∃ rr, rr = (rightB a1 a2 && rightB b1 b2) := ⟨_, rfl⟩
  rw [← hrr] at HBO
  cases rr
  · have HRES : Hid (refCmp (a1, a2) (b1, b2) = 0) := Lib.hid (if_neg (by rw [← hrr]; simp))
    clear hrr
    go_wp2_with (go_at_call 50; (with_reducible refine (HBO.out _).mono ?_); rintro e w2 ⟨rfl, hx2⟩)
    go_ret
    exact ⟨by rw [HRES.out]; rfl, HX1.out.trans hx2⟩
  · have hr1 := (Bool.and_eq_true_iff.1 hrr.symm).1
    have hr2 := (Bool.and_eq_true_iff.1 hrr.symm).2
    obtain ⟨ha2, hga⟩ := (rightB_iff _ _).1 hr1
    obtain ⟨hb2, hgb⟩ := (rightB_iff _ _).1 hr2
    have HRR : Hid (refCmp (a1, a2) (b1, b2) = if a1 * b2 - b1 * a2 = 0 then 0 else if a1 * b2 - b1 * a2 < 0 then -1 else 1) := Lib.hid (if_pos hrr.symm)
    clear hrr hr1 hr2 hga hgb
    go_upto_region 3 with (go_at_call 50; (with_reducible refine (HBO.out _).mono ?_); rintro e w3 ⟨rfl, hx2⟩)
    have HX3 := Lib.hid hx2
    clear c0 c1 cl d0 d1 dl hx2 HBO
    obtain ⟨c0, c1, cl, d0, d1, dl⟩ := HC.out w3 HX3.out
    have HO1 := Lib.hid (fun W => bof_any a1 W HA.out.1 HA.out.2.1)
    have HO2 := Lib.hid (fun W => bof_any a2 W HA.out.2.2.1 HA.out.2.2.2)
    have HO3 := Lib.hid (fun W => bof_any b1 W HB.out.1 HB.out.2.1)
    have HO4 := Lib.hid (fun W => bof_any b2 W HB.out.2.2.1 HB.out.2.2.2)
    have L1 : (ofL (a1.natAbs : Int)).length ≤ 4 := (of_val HA.out.1 HA.out.2.1).2.2.2.1
    have L2 : (ofL (a2.natAbs : Int)).length ≤ 4 := (of_val HA.out.2.2.1 HA.out.2.2.2).2.2.2.1
    have L3 : (ofL (b1.natAbs : Int)).length ≤ 4 := (of_val HB.out.1 HB.out.2.1).2.2.2.1
    have L4 : (ofL (b2.natAbs : Int)).length ≤ 4 := (of_val HB.out.2.2.1 HB.out.2.2.2).2.2.2.1
    obtain ⟨n1, n2, n3⟩ := mul_val (a := a1) (b := b2) ⟨HA.out.1, HA.out.2.1⟩ ⟨HB.out.2.2.1, HB.out.2.2.2⟩
    obtain ⟨o1, o2, o3⟩ := mul_val (a := b1) (b := a2) ⟨HB.out.1, HB.out.2.1⟩ ⟨HA.out.2.2.1, HA.out.2.2.2⟩
    obtain ⟨u1, u2, u3⟩ := sum_val (s := decide (a1 < 0) != decide (b2 < 0)) (t := !(decide (b1 < 0) != decide (a2 < 0))) n1 o1
    rw [n2, sgn_not, o2] at u2
    have HSU := Lib.hid (fun W v u (hv : BgR W v (decide (a1 < 0) != decide (b2 < 0)) (timesL (ofL a1.natAbs) (ofL b2.natAbs))) (hu : BgR W u (!(decide (b1 < 0) != decide (a2 < 0))) (timesL (ofL b1.natAbs) (ofL a2.natAbs))) => badd_any (decide (a1 < 0) != decide (b2 < 0)) (!(decide (b1 < 0) != decide (a2 < 0))) (timesL (ofL a1.natAbs) (ofL b2.natAbs)) (timesL (ofL b1.natAbs) (ofL a2.natAbs)) W v u hv hu (by omega) (by omega))
    obtain ⟨⟨bs, bl⟩, hbs⟩ : ∃ x : Bool × List Int, x = bgSum (decide (a1 < 0) != decide (b2 < 0)) (!(decide (b1 < 0) != decide (a2 < 0))) (timesL (ofL a1.natAbs) (ofL b2.natAbs)) (timesL (ofL b1.natAbs) (ofL a2.natAbs)) := ⟨_, rfl⟩
    rw [← hbs] at u1 u2 u3 HSU
    simp only at u1 u2 u3 HSU
    clear hbs
    have HM1 := Lib.hid (fun W v u (hv : BgR W v (decide (a1 < 0)) (ofL a1.natAbs)) (hu : BgR W u (decide (b2 < 0)) (ofL b2.natAbs)) => bmul_any (decide (a1 < 0)) (decide (b2 < 0)) (ofL a1.natAbs) (ofL b2.natAbs) W v u hv hu (by omega) (by omega))
    have HM3 := Lib.hid (fun W v u (hv : BgR W v (decide (b1 < 0)) (ofL b1.natAbs)) (hu : BgR W u (decide (a2 < 0)) (ofL a2.natAbs)) => bmul_any (decide (b1 < 0)) (decide (a2 < 0)) (ofL b1.natAbs) (ofL a2.natAbs) W v u hv hu (by omega) (by omega))
    have HTR := Lib.hid (fun W v (hv : DR W v bl) => trim_any bl W v hv)
    obtain ⟨t1, t2, t3, t4⟩ := trimL_spec bl u1
    have HT : Hid (((trimL bl).length : Int) = 0 ∧ refCmp (a1, a2) (b1, b2) = 0 ∨ ¬ ((trimL bl).length : Int) = 0 ∧ refCmp (a1, a2) (b1, b2) = if bs then -1 else 1) := Lib.hid (by
      rw [HRR.out]
      have hdn := dv_nonneg u1
      by_cases h0 : (trimL bl).length = 0
      · left
        rw [List.length_eq_zero_iff.1 h0] at t3
        rw [← t3] at u2
        have : sgn bs (dv []) = 0 := by show sgn bs 0 = 0; unfold sgn; split <;> rfl
        rw [this] at u2
        exact ⟨by omega, if_pos (by omega)⟩
      · right
        have hne : dv bl ≠ 0 := fun e => h0 (by rw [dv_zero t1 t2 (t3.trans e)]; rfl)
        refine ⟨by omega, ?_⟩
        unfold sgn at u2
        cases bs
        · rw [if_neg (by decide)] at u2
          rw [if_neg (by omega), if_neg (by omega), if_neg (by decide)]
        · rw [if_pos rfl] at u2
          rw [if_neg (by omega), if_pos (by omega), if_pos rfl])
    clear L1 L2 L3 L4 n1 n2 n3 o1 o2 o3 u1 u2 u3 t1 t2 t3 t4 HRR ha2 hb2
    refine Rr.wp_region [(0, .y), (1, .y), (3, .y), (4, .y), (2, .z), (5, .z), (6, .z), (7, .m)] (fun _ => (.cells #[.bool false, .slice none 0 0] 97, Rg.ptr)) (by kernel_rfl) (by kernel_rfl) ?_
    (refine Rr.wr_y (by simp only [List.getElem?_toArray, List.getElem?_cons_succ, List.getElem?_cons_zero]; rfl) (by rfl) ?_
     apply Exists.intro
     refine ⟨fun wz hw _ => ?_, ?_⟩
     · have hcz := hw.cells.1
       go_simp
       (with_reducible exact Rg.up_value)
     simp only [Act.put, List.setIfInBounds_toArray, List.set_cons_zero, List.set_cons_succ])
    (refine Rr.wr_y (by simp only [List.getElem?_toArray, List.getElem?_cons_succ, List.getElem?_cons_zero]; rfl) (by rfl) ?_
     apply Exists.intro
     refine ⟨fun wz hw _ => ?_, ?_⟩
     · have hcz := hw.cells.1
       go_simp
       (with_reducible exact Rg.up_value)
     simp only [Act.put, List.setIfInBounds_toArray, List.set_cons_zero, List.set_cons_succ])
    (refine Rr.wr_y (by simp only [List.getElem?_toArray, List.getElem?_cons_succ, List.getElem?_cons_zero]; rfl) (by rfl) ?_
     apply Exists.intro
     refine ⟨fun wz hw _ => ?_, ?_⟩
     · have hcz := hw.cells.1
       go_simp
       (with_reducible exact Rg.up_value)
     simp only [Act.put, List.setIfInBounds_toArray, List.set_cons_zero, List.set_cons_succ])
    (refine Rr.wr_y (by simp only [List.getElem?_toArray, List.getElem?_cons_succ, List.getElem?_cons_zero]; rfl) (by rfl) ?_
     apply Exists.intro
     refine ⟨fun wz hw _ => ?_, ?_⟩
     · have hcz := hw.cells.1
       go_simp
       (with_reducible exact Rg.up_value)
     simp only [Act.put, List.setIfInBounds_toArray, List.set_cons_zero, List.set_cons_succ])
    refine Rr.wr_z (fun v w' => BgR w' v (decide (b1 < 0)) (ofL b1.natAbs)) (by simp only [List.getElem?_toArray, List.getElem?_cons_succ, List.getElem?_cons_zero]; rfl) (by rfl) (fun v w1 w2 h e => by first | exact Rd.ext e h | exact h.ext e) (fun wz hw hh => ?_) (fun u => ?_)
    · have hcz := hw.cells.1
      go_simp
      apply Rr.upR_enter
      (with_reducible refine (HO3.out wz).mono ?_)
      rintro e w3 ⟨v3, rfl, hx3, hr3⟩
      exact ⟨v3, rfl, hx3, hr3⟩
    simp only [Act.put, List.setIfInBounds_toArray, List.set_cons_zero, List.set_cons_succ]
    refine Rr.wr_z (fun v w' => BgR w' v (decide (a2 < 0)) (ofL a2.natAbs)) (by simp only [List.getElem?_toArray, List.getElem?_cons_succ, List.getElem?_cons_zero]; rfl) (by rfl) (fun v w1 w2 h e => by first | exact Rd.ext e h | exact h.ext e) (fun wz hw hh => ?_) (fun u => ?_)
    · have hcz := hw.cells.1
      go_simp
      apply Rr.upR_enter
      (with_reducible refine (HO2.out wz).mono ?_)
      rintro e w3 ⟨v3, rfl, hx3, hr3⟩
      exact ⟨v3, rfl, hx3, hr3⟩
    simp only [Act.put, List.setIfInBounds_toArray, List.set_cons_zero, List.set_cons_succ]
    refine Rr.wr_z (fun v w' => BgR w' v (decide (b1 < 0) != decide (a2 < 0)) (timesL (ofL b1.natAbs) (ofL a2.natAbs))) (by simp only [List.getElem?_toArray, List.getElem?_cons_succ, List.getElem?_cons_zero]; rfl) (by rfl) (fun v w1 w2 h e => by first | exact Rd.ext e h | exact h.ext e) (fun wz hw hh => ?_) (fun u => ?_)
    · have hcz := hw.cells.1
      go_simp
      apply Rr.upR_enter
      (with_reducible refine (HM3.out wz _ _ (hold1 hh) (hold0 hh)).mono ?_)
      rintro e w3 ⟨v3, rfl, hx3, hr3⟩
      exact ⟨v3, rfl, hx3, hr3⟩
    simp only [Act.put, List.setIfInBounds_toArray, List.set_cons_zero, List.set_cons_succ]
    refine Rr.wr_m (by simp only [List.getElem?_toArray, List.getElem?_cons_succ, List.getElem?_cons_zero]; rfl) (by rfl) (fun wz => by go_simp) (fun pm hpm => ?_)
    simp only [Act.put, List.setIfInBounds_toArray, List.set_cons_zero, List.set_cons_succ]
    refine Rr.wr_nil ?_
    intro wy hy hh
    simp only [List.length_cons, List.length_nil, List.drop_succ_cons, List.drop_zero, Nat.reduceAdd]
    obtain ⟨hb1, hb2⟩ := hh _ List.mem_cons_self
    obtain ⟨⟨xA, xn, xc⟩, hxe, hxd⟩ := hold1 hh
    subst hxe
    generalize (decide (b1 < 0) != decide (a2 < 0)) = sm at *
    generalize timesL (ofL b1.natAbs) (ofL a2.natAbs) = tm at *
    refine wpList_store_row (hgd := rfl) 97 (.tmp 5) (.tmp 17) rfl pm (by rfl) #[.bool sm, slV (xA, xn, xc)] (by rfl) #[.bool false, .slice none 0 0] 97 hb2 (by rfl) (by kernel_rfl) (by simp [Value.oneCell', slV]) ?_
    have hbc := setRow_heap wy pm _ #[.bool sm, slV (xA, xn, xc)] 97 _ hb2
    have hxc := below_setRow hy hb1 #[.bool sm, slV (xA, xn, xc)]
    have hxd2 := DR.setr hxd hb2 #[.bool sm, slV (xA, xn, xc)]
    generalize wy.setRow pm #[.bool sm, slV (xA, xn, xc)] = W5 at *
    clear hh hb2 hxd hy c0 c1 cl d0 d1 dl
    obtain ⟨hc5, hf5, hl5⟩ := Rg.cells_of hbc
    have g0 : W5.cell? ⟨pm, 0, none⟩ = some (.bool sm) := hc5 0
    have gf := hf5 0
    go_upto_region 5 with (fail)
    have hb6 : (W5.setCell ⟨pm, 0, none⟩ (.bool (!sm))).heap[pm]? = some (.cells #[.bool (!sm), slV (xA, xn, xc)] 97) := heap_setCell_same W5 pm 0 _ 97 _ hbc
    have hx6 : Ext w3 (W5.setCell ⟨pm, 0, none⟩ (.bool (!sm))) := Below.setCell hxc hb1 _
    have hd6 := DR.set (a := sm) (x := xA) (y := xn) (z := xc) hxd2 hbc 0 (.bool (!sm))
    generalize W5.setCell ⟨pm, 0, none⟩ (.bool (!sm)) = W6 at *
    have HMI : Hid (BgR W6 (.agg #[.bool (!sm), slV (xA, xn, xc)]) (!sm) tm) := Lib.hid ⟨(xA, xn, xc), rfl, hd6⟩
    have HX3' := Lib.hid (HX3.out.trans hx6)
    clear HX3 hbc hxc hxd2 hc5 hf5 hl5 g0 gf hx6 hd6 hb1
    have HX3 := HX3'
    clear HX3'
    obtain ⟨c0, c1, cl, d0, d1, dl⟩ := HC.out W6 HX3.out
    refine Rr.wp_region [(0, .y), (1, .y), (3, .y), (4, .y), (7, .y), (2, .z), (5, .z), (6, .z), (8, .z), (9, .m)] (fun _ => (.cells #[.bool false, .slice none 0 0] 97, Rg.ptr)) (by kernel_rfl) (by kernel_rfl) ?_
    (refine Rr.wr_y (by simp only [List.getElem?_toArray, List.getElem?_cons_succ, List.getElem?_cons_zero]; rfl) (by rfl) ?_
     apply Exists.intro
     refine ⟨fun wz hw _ => ?_, ?_⟩
     · have hcz := hw.cells.1
       go_simp
       (with_reducible exact Rg.up_value)
     simp only [Act.put, List.setIfInBounds_toArray, List.set_cons_zero, List.set_cons_succ])
    (refine Rr.wr_y (by simp only [List.getElem?_toArray, List.getElem?_cons_succ, List.getElem?_cons_zero]; rfl) (by rfl) ?_
     apply Exists.intro
     refine ⟨fun wz hw _ => ?_, ?_⟩
     · have hcz := hw.cells.1
       go_simp
       (with_reducible exact Rg.up_value)
     simp only [Act.put, List.setIfInBounds_toArray, List.set_cons_zero, List.set_cons_succ])
    (refine Rr.wr_y (by simp only [List.getElem?_toArray, List.getElem?_cons_succ, List.getElem?_cons_zero]; rfl) (by rfl) ?_
     apply Exists.intro
     refine ⟨fun wz hw _ => ?_, ?_⟩
     · have hcz := hw.cells.1
       go_simp
       (with_reducible exact Rg.up_value)
     simp only [Act.put, List.setIfInBounds_toArray, List.set_cons_zero, List.set_cons_succ])
    (refine Rr.wr_y (by simp only [List.getElem?_toArray, List.getElem?_cons_succ, List.getElem?_cons_zero]; rfl) (by rfl) ?_
     apply Exists.intro
     refine ⟨fun wz hw _ => ?_, ?_⟩
     · have hcz := hw.cells.1
       go_simp
       (with_reducible exact Rg.up_value)
     simp only [Act.put, List.setIfInBounds_toArray, List.set_cons_zero, List.set_cons_succ])
    (refine Rr.wr_y (by simp only [List.getElem?_toArray, List.getElem?_cons_succ, List.getElem?_cons_zero]; rfl) (by rfl) ?_
     apply Exists.intro
     refine ⟨fun wz hw _ => ?_, ?_⟩
     · have hcz := hw.cells.1
       exact up_row (by rfl) ((hw.block _ (Rg.lt_of_heap hb6)).trans hb6) Try.underlying97 (by kernel_rfl)
     simp only [Act.put, List.setIfInBounds_toArray, List.set_cons_zero, List.set_cons_succ])
    refine Rr.wr_z (fun v w' => BgR w' v (decide (a1 < 0)) (ofL a1.natAbs)) (by simp only [List.getElem?_toArray, List.getElem?_cons_succ, List.getElem?_cons_zero]; rfl) (by rfl) (fun v w1 w2 h e => by first | exact Rd.ext e h | exact h.ext e) (fun wz hw hh => ?_) (fun u => ?_)
    · have hcz := hw.cells.1
      go_simp
      apply Rr.upR_enter
      (with_reducible refine (HO1.out wz).mono ?_)
      rintro e w3 ⟨v3, rfl, hx3, hr3⟩
      exact ⟨v3, rfl, hx3, hr3⟩
    simp only [Act.put, List.setIfInBounds_toArray, List.set_cons_zero, List.set_cons_succ]
    refine Rr.wr_z (fun v w' => BgR w' v (decide (b2 < 0)) (ofL b2.natAbs)) (by simp only [List.getElem?_toArray, List.getElem?_cons_succ, List.getElem?_cons_zero]; rfl) (by rfl) (fun v w1 w2 h e => by first | exact Rd.ext e h | exact h.ext e) (fun wz hw hh => ?_) (fun u => ?_)
    · have hcz := hw.cells.1
      go_simp
      apply Rr.upR_enter
      (with_reducible refine (HO4.out wz).mono ?_)
      rintro e w3 ⟨v3, rfl, hx3, hr3⟩
      exact ⟨v3, rfl, hx3, hr3⟩
    simp only [Act.put, List.setIfInBounds_toArray, List.set_cons_zero, List.set_cons_succ]
    refine Rr.wr_z (fun v w' => BgR w' v (decide (a1 < 0) != decide (b2 < 0)) (timesL (ofL a1.natAbs) (ofL b2.natAbs))) (by simp only [List.getElem?_toArray, List.getElem?_cons_succ, List.getElem?_cons_zero]; rfl) (by rfl) (fun v w1 w2 h e => by first | exact Rd.ext e h | exact h.ext e) (fun wz hw hh => ?_) (fun u => ?_)
    · have hcz := hw.cells.1
      go_simp
      apply Rr.upR_enter
      (with_reducible refine (HM1.out wz _ _ (hold1 hh) (hold0 hh)).mono ?_)
      rintro e w3 ⟨v3, rfl, hx3, hr3⟩
      exact ⟨v3, rfl, hx3, hr3⟩
    simp only [Act.put, List.setIfInBounds_toArray, List.set_cons_zero, List.set_cons_succ]
    refine Rr.wr_z (fun v w' => BgR w' v bs bl) (by simp only [List.getElem?_toArray, List.getElem?_cons_succ, List.getElem?_cons_zero]; rfl) (by rfl) (fun v w1 w2 h e => by first | exact Rd.ext e h | exact h.ext e) (fun wz hw hh => ?_) (fun u => ?_)
    · have hcz := hw.cells.1
      go_simp
      apply Rr.upR_enter
      (with_reducible refine (HSU.out wz _ _ (hold0 hh) (HMI.out.ext hw)).mono ?_)
      rintro e w3 ⟨v3, rfl, hx3, hr3⟩
      exact ⟨v3, rfl, hx3, hr3⟩
    simp only [Act.put, List.setIfInBounds_toArray, List.set_cons_zero, List.set_cons_succ]
    refine Rr.wr_m (by simp only [List.getElem?_toArray, List.getElem?_cons_succ, List.getElem?_cons_zero]; rfl) (by rfl) (fun wz => by go_simp) (fun pk hpk => ?_)
    simp only [Act.put, List.setIfInBounds_toArray, List.set_cons_zero, List.set_cons_succ]
    refine Rr.wr_nil ?_
    intro wy hy hh
    simp only [List.length_cons, List.length_nil, List.drop_succ_cons, List.drop_zero, Nat.reduceAdd]
    obtain ⟨hb1, hb2⟩ := hh _ List.mem_cons_self
    obtain ⟨⟨yA, yn, yc⟩, hxe, hxd⟩ := hold1 hh
    subst hxe
    refine wpList_store_row (hgd := rfl) 97 (.tmp 6) (.tmp 30) rfl pk (by rfl) #[.bool bs, slV (yA, yn, yc)] (by rfl) #[.bool false, .slice none 0 0] 97 hb2 (by rfl) (by kernel_rfl) (by simp [Value.oneCell', slV]) ?_
    have hbc := setRow_heap wy pk _ #[.bool bs, slV (yA, yn, yc)] 97 _ hb2
    have hxc := below_setRow hy hb1 #[.bool bs, slV (yA, yn, yc)]
    have hxd2 := DR.setr hxd hb2 #[.bool bs, slV (yA, yn, yc)]
    generalize wy.setRow pk #[.bool bs, slV (yA, yn, yc)] = W7 at *
    have HX7 := Lib.hid (HX1.out.trans (HX3.out.trans hxc))
    have HTT := Lib.hid (HTR.out W7 _ hxd2)
    clear hh hb2 hxd hy c0 c1 cl d0 d1 dl HMI HX3 HX1 HC HM1 HM3 HO1 HO2 HO3 HO4 HSU hxc hxd2 HTR hb6
    obtain ⟨hc7, hf7, hl7⟩ := Rg.cells_of hbc
    have g0 : W7.cell? ⟨pk, 0, none⟩ = some (.bool bs) := hc7 0
    have g1 : W7.cell? ⟨pk, 1, none⟩ = some (slV (yA, yn, yc)) := hc7 1
    clear hc7 hf7
    rcases HT.out with ⟨hz, hrc⟩ | ⟨hz, hrc⟩
    · have HRC := Lib.hid hrc
      clear hrc HT
      generalize trimL bl = tb at *
      go_wp2_with (go_at_call 79; (with_reducible refine (HTT.out).mono ?_); rintro e w8 ⟨u8, rfl, hx8, hd8⟩; obtain ⟨A8, c8, rfl⟩ := hd8.form)
      go_ret
      exact ⟨by rw [HRC.out]; rfl, HX7.out.trans hx8⟩
    · have HRC := Lib.hid hrc
      have hz' : ((((trimL bl).length : Int)) == 0) = false := by rw [beq_eq_false_iff_ne]; exact hz
      clear hrc HT
      generalize trimL bl = tb at *
      cases bs
      · go_wp2_with (go_at_call 79; (with_reducible refine (HTT.out).mono ?_); rintro e w8 ⟨u8, rfl, hx8, hd8⟩; obtain ⟨A8, c8, rfl⟩ := hd8.form; have k0 := (hx8.cells.1 _ 0 hl7).trans g0; have kl := Nat.lt_of_lt_of_le hl7 hx8.size)
        go_ret
        exact ⟨by rw [HRC.out]; rfl, HX7.out.trans hx8⟩
      · go_wp2_with (go_at_call 79; (with_reducible refine (HTT.out).mono ?_); rintro e w8 ⟨u8, rfl, hx8, hd8⟩; obtain ⟨A8, c8, rfl⟩ := hd8.form; have k0 := (hx8.cells.1 _ 0 hl7).trans g0; have kl := Nat.lt_of_lt_of_le hl7 hx8.size)
        go_ret
        exact ⟨by rw [HRC.out]; rfl, HX7.out.trans hx8⟩
end Go.Proofs.Ytgkdeknfmmgbdaa

namespace Go.Proofs.Ytgkdeknfmmgbdaa
set_option linter.unusedVariables false
set_option linter.unusedSimpArgs false
open Go.RowKit

theorem rMod_any (n m : Int) (hm : 0 < m) (hm2 : m ≤ 1000000) (h1 : -9223372036854775808 ≤ n) (h2 : n ≤ 9223372036854775807) (w : World) :
    Calls Try.prog 49 #[.int .i64 n, .int .i64 m] w fun e w' => e = .returned (.int .i64 (modZ n m)) ∧ Ext w w' := by
  have hm0 : ¬ m = 0 := by omega
  have b := tmod_bd n hm
  have HE := Lib.hid (modZ_eq n m)
  go_enter Try.func49, Try.ntmps49
  go_wp2
  go_ret
  exact ⟨by rw [HE.out]; rfl, Ext.refl _⟩

set_option maxRecDepth 100000 in
set_option maxHeartbeats 1000000 in
theorem rMake_any (n d : Int) (h1 : -9223372036854775808 ≤ n) (h2 : n ≤ 9223372036854775807) (h3 : 1 ≤ d) (h4 : d ≤ 9223372036854775807) (w : World) :
    Calls Try.prog 40 #[.int .i64 n, .int .i64 d] w fun e w' => e = .returned (rbv (normS n d)) ∧ Ext w w' := by
  have hd0 : ¬ d = 0 := by omega
  have HS1 := Lib.hid (fun W => small_b n W)
  have HS2 := Lib.hid (fun W => small_b d W)
  by_cases hs : smB n = true ∧ smB d = true
  · have hsn := smB_iff.1 hs.1
    have hsd := smB_iff.1 hs.2
    have HQ := Lib.hid (fun W => quick_p n d (by omega) (by omega) W)
    have HN := Lib.hid (quick_norm (n := n) (d := d) (by omega) (by omega) (by omega))
    rw [hs.1] at HS1
    rw [hs.2] at HS2
    clear hs hsn hsd
    generalize quickZ n d = qq at *
    generalize normS n d = nn at *
    obtain ⟨q1, q2⟩ := qq
    go_enter Try.func40, Try.ntmps40
    go_wp2_with (first
      | (go_at_call_of 67 (Value.int .i64 n); (with_reducible refine (HS1.out _).mono ?_); rintro e w2 ⟨rfl, hx2⟩)
      | (go_at_call_of 67 (Value.int .i64 d); (with_reducible refine (HS2.out _).mono ?_); rintro e w3 ⟨rfl, hx3⟩)
      | (go_at_call 52; (with_reducible refine (HQ.out _).mono ?_); rintro e w4 ⟨rfl, hx4⟩; obtain ⟨hc, hf⟩ := (hx2.trans (hx3.trans hx4)).cells; have hz := (hx2.trans (hx3.trans hx4)).size; simp at hz; have z1 : w.heap.size < w4.heap.size := (by omega)))
    exact bodyPost_ret (v := rbv ((q1, q2), true)) (by simp [results, Try.results40, go_sem, hc]) rfl ⟨by rw [HN.out], (by with_reducible repeat (first | exact Ext.refl _ | assumption | apply Ext.drewN | apply Ext.drew | apply Ext.alloc | (refine Ext.setCell ?_ (by simp <;> omega) _) | (refine Ext.trans ?_ (by assumption))))⟩
  · obtain ⟨-, -, n3, n4, n5⟩ := of_val h1 h2
    obtain ⟨-, -, m3, m4, m5⟩ := of_val (show -9223372036854775808 ≤ d by omega) h4
    have hdn : decide (d < 0) = false := decide_eq_false (by omega)
    have HLO := Lib.hid (fun W v u (hv : BgR W v (decide (n < 0)) (ofL n.natAbs)) (hu : BgR W u (decide (d < 0)) (ofL d.natAbs)) => blowest_any _ _ _ _ W v u hv hu (by omega) (by omega) (by rw [m3]; omega))
    have hsg : sgn (decide (n < 0) != decide (d < 0)) (dv (ofL n.natAbs)) = n := by rw [hdn]; simpa using n5
    rw [hsg, m3, show normS n ((d.natAbs : Nat) : Int) = normS n d by rw [show ((d.natAbs : Nat) : Int) = d by omega]] at HLO
    clear n3 n4 n5 m3 m4 m5 hsg hdn
    have HOF1 := Lib.hid (fun W => bof_any n W h1 h2)
    have HOF2 := Lib.hid (fun W => bof_any d W (by omega) h4)
    generalize normS n d = r at *
    obtain ⟨⟨r1, r2⟩, r3⟩ := r
    simp only at HLO
    by_cases hs1 : smB n = true
    · have hs2 : smB d = false := by
        cases h : smB d
        · rfl
        · exact absurd ⟨hs1, h⟩ hs
      rw [hs1] at HS1
      rw [hs2] at HS2
      clear hs hs1 hs2
      go_enter Try.func40, Try.ntmps40
      go_wp2_with (first
        | (go_at_call_of 67 (Value.int .i64 n); (with_reducible refine (HS1.out _).mono ?_); rintro e w2 ⟨rfl, hx2⟩)
        | (go_at_call_of 67 (Value.int .i64 d); (with_reducible refine (HS2.out _).mono ?_); rintro e w3 ⟨rfl, hx3⟩)
        | (go_at_call_of 56 (Value.int .i64 n); (with_reducible refine (HOF1.out _).mono ?_); rintro e w4 ⟨v4, rfl, hx4, hr4⟩)
        | (go_at_call_of 56 (Value.int .i64 d); (with_reducible refine (HOF2.out _).mono ?_); rintro e w5 ⟨v5, rfl, hx5, hr5⟩)
        | (go_at_call 53; (with_reducible refine (HLO.out _ _ _ (hr4.ext hx5) hr5).mono ?_); rintro e w6 ⟨rfl, hx6⟩; obtain ⟨hc, hf⟩ := ((hx2.trans hx3).trans (hx4.trans (hx5.trans hx6))).cells; have hz := ((hx2.trans hx3).trans (hx4.trans (hx5.trans hx6))).size; simp at hz; have z1 : w.heap.size < w6.heap.size := (by omega)))
      exact bodyPost_ret (v := rbv ((r1, r2), r3)) (by simp [results, Try.results40, go_sem, hc]) rfl ⟨rfl, (by with_reducible repeat (first | exact Ext.refl _ | assumption | apply Ext.drewN | apply Ext.drew | apply Ext.alloc | (refine Ext.setCell ?_ (by simp <;> omega) _) | (refine Ext.trans ?_ (by assumption))))⟩
    · have hs1' : smB n = false := by simpa using hs1
      rw [hs1'] at HS1
      clear hs hs1 hs1'
      go_enter Try.func40, Try.ntmps40
      go_wp2_with (first
        | (go_at_call_of 67 (Value.int .i64 n); (with_reducible refine (HS1.out _).mono ?_); rintro e w2 ⟨rfl, hx2⟩)
        | (go_at_call_of 67 (Value.int .i64 d); (with_reducible refine (HS2.out _).mono ?_); rintro e w3 ⟨rfl, hx3⟩)
        | (go_at_call_of 56 (Value.int .i64 n); (with_reducible refine (HOF1.out _).mono ?_); rintro e w4 ⟨v4, rfl, hx4, hr4⟩)
        | (go_at_call_of 56 (Value.int .i64 d); (with_reducible refine (HOF2.out _).mono ?_); rintro e w5 ⟨v5, rfl, hx5, hr5⟩)
        | (go_at_call 53; (with_reducible refine (HLO.out _ _ _ (hr4.ext hx5) hr5).mono ?_); rintro e w6 ⟨rfl, hx6⟩; obtain ⟨hc, hf⟩ := ((hx2).trans (hx4.trans (hx5.trans hx6))).cells; have hz := ((hx2).trans (hx4.trans (hx5.trans hx6))).size; simp at hz; have z1 : w.heap.size < w6.heap.size := (by omega)))
      exact bodyPost_ret (v := rbv ((r1, r2), r3)) (by simp [results, Try.results40, go_sem, hc]) rfl ⟨rfl, (by with_reducible repeat (first | exact Ext.refl _ | assumption | apply Ext.drewN | apply Ext.drew | apply Ext.alloc | (refine Ext.setCell ?_ (by simp <;> omega) _) | (refine Ext.trans ?_ (by assumption))))⟩

/-- A right number. -/
def RiR (a : Int × Int) : Prop := OkR a ∧ rightB a.1 a.2 = true
theorem RiR.ok {a : Int × Int} (h : RiR a) : OkR a := h.1
theorem normS_ok {n d : Int} {p : Int × Int} (h2 : 0 < d) (h : normS n d = (p, true)) : RiR p := by
  refine ⟨?_, (normS_right h2 h).1⟩
  have h3 := ((rightB_iff _ _).1 (normS_right h2 h).1).1
  unfold normS at h
  simp only at h
  split at h
  · cases h
  · injection h with h _
    subst h
    unfold OkR
    simp only at h3 ⊢
    omega
theorem int_RiR {a : Int} (h : -1000 < a ∧ a < 1000) : RiR (a, 1) := ⟨by unfold OkR; omega, by unfold rightB; rw [Int.gcd_one]; rfl⟩

set_option maxRecDepth 100000 in
set_option maxHeartbeats 1000000 in
theorem rMade_any (q0 q1 q2 : Int) (h0 : -9223372036854775808 ≤ q0 ∧ q0 ≤ 9223372036854775807) (h1 : -9223372036854775808 ≤ q1 ∧ q1 ≤ 9223372036854775807) (h2 : -9223372036854775808 ≤ q2 ∧ q2 ≤ 9223372036854775807) (w : World) :
    Calls Try.prog 23 #[.agg #[.int .i64 q0, .int .i64 q1, .int .i64 q2]] w fun e w' => ∃ a, e = .returned (rv a) ∧ RiR a ∧ Ext w w' := by
  obtain ⟨h00, h01⟩ := h0
  obtain ⟨h10, h11⟩ := h1
  obtain ⟨h20, h21⟩ := h2
  have HM0 := Lib.hid (fun W => rMod_any q2 6 (by omega) (by omega) h20 h21 W)
  have hb := modZ_bd q2 (m := 6) (by omega)
  obtain ⟨M, hM⟩ : ∃ M, M = modZ q2 6 := ⟨_, rfl⟩
  rw [← hM] at HM0 hb
  clear hM
  have hx1 : Ext w ((w.alloc (.cells #[.int .i64 q0, .int .i64 q1, .int .i64 q2] 41)).alloc (.cells #[.int .i64 0, .int .i64 0] 26)) := (by with_reducible repeat (first | exact Ext.refl _ | assumption | apply Ext.drewN | apply Ext.drew | apply Ext.alloc | (refine Ext.setCell ?_ (by simp <;> omega) _) | (refine Ext.trans ?_ (by assumption))))
  have HC : Hid (∀ W, Ext ((w.alloc (.cells #[.int .i64 q0, .int .i64 q1, .int .i64 q2] 41)).alloc (.cells #[.int .i64 0, .int .i64 0] 26)) W → W.cell? ⟨w.heap.size, 0, none⟩ = some (.int .i64 q0) ∧ W.cell? ⟨w.heap.size, 1, none⟩ = some (.int .i64 q1) ∧ W.cell? ⟨w.heap.size, 2, none⟩ = some (.int .i64 q2) ∧ w.heap.size < W.heap.size ∧ W.frozen? ⟨w.heap.size + 1, 0, none⟩ = false ∧ W.frozen? ⟨w.heap.size + 1, 1, none⟩ = false ∧ w.heap.size + 1 < W.heap.size ∧ W.cell? ⟨w.heap.size + 1, 0, none⟩ = some (.int .i64 0) ∧ W.cell? ⟨w.heap.size + 1, 1, none⟩ = some (.int .i64 0)) := Lib.hid fun W hW => by
    have e1 : ((w.alloc (.cells #[.int .i64 q0, .int .i64 q1, .int .i64 q2] 41)).alloc (.cells #[.int .i64 0, .int .i64 0] 26)).heap[w.heap.size]? = some (.cells #[.int .i64 q0, .int .i64 q1, .int .i64 q2] 41) := by
      rw [Below.heap_alloc _ _ _ (by simp)]; exact block_new rfl
    have e2 : ((w.alloc (.cells #[.int .i64 q0, .int .i64 q1, .int .i64 q2] 41)).alloc (.cells #[.int .i64 0, .int .i64 0] 26)).heap[w.heap.size + 1]? = some (.cells #[.int .i64 0, .int .i64 0] 26) := block_new (by simp)
    obtain ⟨c, f, l⟩ := Rg.cells_of ((hW.block _ (Rg.lt_of_heap e1)).trans e1)
    obtain ⟨c', f', l'⟩ := Rg.cells_of ((hW.block _ (Rg.lt_of_heap e2)).trans e2)
    exact ⟨c 0, c 1, c 2, l, f' 0, f' 1, l', c' 0, c' 1⟩
  have HX1 := Lib.hid hx1
  clear hx1
  rcases (show M = 0 ∨ M = 1 ∨ M = 2 ∨ M = 3 ∨ M = 4 ∨ M = 5 by omega) with rfl | rfl | rfl | rfl | rfl | rfl
  · skip
    have bq := tmod_bd q0 (m := 20) (by omega)
    skip
    have HM1 := Lib.hid (fun W => rMod_any q1 12 (by omega) (by omega) h10 h11 W)
    have hbx := modZ_bd q1 (m := 12) (by omega)
    obtain ⟨x, hx⟩ : ∃ x, x = modZ q1 12 := ⟨_, rfl⟩
    rw [← hx] at HM1 hbx
    clear hx
    skip
    have HK := Lib.hid (fun W => rMake_any (q0.tmod 20) (1 + x) (by omega) (by omega) (by omega) (by omega) W)
    have b1000 := tmod_bd (q0.tmod 20) (m := 1000) (by omega)
    have HOK := Lib.hid (fun p (h : normS (q0.tmod 20) (1 + x) = (p, true)) => normS_ok (by omega) h)
    obtain ⟨⟨⟨r1, r2⟩, ok⟩, hN⟩ : ∃ y, y = normS (q0.tmod 20) (1 + x) := ⟨_, rfl⟩
    rw [← hN] at HK HOK
    clear hN
    cases ok
    · clear HOK
      go_enter Try.func23, Try.ntmps23
      go_wp2_with (first
        | (go_at_call_of 49 (Value.int .i64 q2); (with_reducible refine (HM0.out _).mono ?_); rintro e w2 ⟨rfl, hx2⟩; obtain ⟨k0, k1, k2, kl, k4, k5, k6, k7, k8⟩ := HC.out w2 hx2; have HX2 := Lib.hid hx2; clear hx2)
        | (go_at_call_of 49 (Value.int .i64 q1); (with_reducible refine (HM1.out _).mono ?_); rintro e w3 ⟨rfl, hx3⟩; clear k0 k1 k2 kl k4 k5 k6 k7 k8; have HX3 := Lib.hid (HX2.out.trans hx3); clear hx3; obtain ⟨k0, k1, k2, kl, k4, k5, k6, k7, k8⟩ := HC.out w3 HX3.out) | (go_at_call 40; (with_reducible refine (HK.out _).mono ?_); rintro e w4 ⟨rfl, hx4⟩; clear k0 k1 k2 kl k4 k5 k6 k7 k8; have HX4 := Lib.hid (HX3.out.trans hx4); clear hx4; obtain ⟨k0, k1, k2, kl, k4, k5, k6, k7, k8⟩ := HC.out w4 HX4.out)
        | (go_at_call 29; (with_reducible refine (refOf_any _ _).mono ?_); rintro e w5 ⟨rfl, hx5⟩; clear k0 k1 k2 kl k4 k5 k6 k7 k8; have HX5 := Lib.hid (HX4.out.trans ((Ext.alloc (Ext.refl _) _).trans hx5)); clear hx5; obtain ⟨k0, k1, k2, kl, k4, k5, k6, k7, k8⟩ := HC.out w5 HX5.out))
      have hxx := HX1.out.trans HX5.out
      exact bodyPost_ret (v := rv (((q0.tmod 20).tmod 1000), 1)) (by simp [results, Try.results23, go_sem, k4, k5, k6, k7, k8]) rfl ⟨_, rfl, int_RiR (by omega), (by with_reducible repeat (first | exact Ext.refl _ | assumption | apply Ext.drewN | apply Ext.drew | apply Ext.alloc | (refine Ext.setCell ?_ (by simp <;> omega) _) | (refine Ext.trans ?_ (by assumption))))⟩
    · go_enter Try.func23, Try.ntmps23
      go_wp2_with (first
        | (go_at_call_of 49 (Value.int .i64 q2); (with_reducible refine (HM0.out _).mono ?_); rintro e w2 ⟨rfl, hx2⟩; obtain ⟨k0, k1, k2, kl, k4, k5, k6, k7, k8⟩ := HC.out w2 hx2; have HX2 := Lib.hid hx2; clear hx2)
        | (go_at_call_of 49 (Value.int .i64 q1); (with_reducible refine (HM1.out _).mono ?_); rintro e w3 ⟨rfl, hx3⟩; clear k0 k1 k2 kl k4 k5 k6 k7 k8; have HX3 := Lib.hid (HX2.out.trans hx3); clear hx3; obtain ⟨k0, k1, k2, kl, k4, k5, k6, k7, k8⟩ := HC.out w3 HX3.out) | (go_at_call 40; (with_reducible refine (HK.out _).mono ?_); rintro e w4 ⟨rfl, hx4⟩; clear k0 k1 k2 kl k4 k5 k6 k7 k8; have HX4 := Lib.hid (HX3.out.trans hx4); clear hx4; obtain ⟨k0, k1, k2, kl, k4, k5, k6, k7, k8⟩ := HC.out w4 HX4.out))
      have hxx := HX1.out.trans HX4.out
      exact bodyPost_ret (v := rv (r1, r2)) (by simp [results, Try.results23, go_sem, k4, k5, k6, k7, k8]) rfl ⟨_, rfl, HOK.out _ rfl, (by with_reducible repeat (first | exact Ext.refl _ | assumption | apply Ext.drewN | apply Ext.drew | apply Ext.alloc | (refine Ext.setCell ?_ (by simp <;> omega) _) | (refine Ext.trans ?_ (by assumption))))⟩
  · skip
    have bq := tmod_bd q0 (m := 1000000) (by omega)
    skip
    have HM1 := Lib.hid (fun W => rMod_any q1 1000 (by omega) (by omega) h10 h11 W)
    have hbx := modZ_bd q1 (m := 1000) (by omega)
    obtain ⟨x, hx⟩ : ∃ x, x = modZ q1 1000 := ⟨_, rfl⟩
    rw [← hx] at HM1 hbx
    clear hx
    skip
    have HK := Lib.hid (fun W => rMake_any (q0.tmod 1000000) (1 + x) (by omega) (by omega) (by omega) (by omega) W)
    have b1000 := tmod_bd (q0.tmod 1000000) (m := 1000) (by omega)
    have HOK := Lib.hid (fun p (h : normS (q0.tmod 1000000) (1 + x) = (p, true)) => normS_ok (by omega) h)
    obtain ⟨⟨⟨r1, r2⟩, ok⟩, hN⟩ : ∃ y, y = normS (q0.tmod 1000000) (1 + x) := ⟨_, rfl⟩
    rw [← hN] at HK HOK
    clear hN
    cases ok
    · clear HOK
      go_enter Try.func23, Try.ntmps23
      go_wp2_with (first
        | (go_at_call_of 49 (Value.int .i64 q2); (with_reducible refine (HM0.out _).mono ?_); rintro e w2 ⟨rfl, hx2⟩; obtain ⟨k0, k1, k2, kl, k4, k5, k6, k7, k8⟩ := HC.out w2 hx2; have HX2 := Lib.hid hx2; clear hx2)
        | (go_at_call_of 49 (Value.int .i64 q1); (with_reducible refine (HM1.out _).mono ?_); rintro e w3 ⟨rfl, hx3⟩; clear k0 k1 k2 kl k4 k5 k6 k7 k8; have HX3 := Lib.hid (HX2.out.trans hx3); clear hx3; obtain ⟨k0, k1, k2, kl, k4, k5, k6, k7, k8⟩ := HC.out w3 HX3.out) | (go_at_call 40; (with_reducible refine (HK.out _).mono ?_); rintro e w4 ⟨rfl, hx4⟩; clear k0 k1 k2 kl k4 k5 k6 k7 k8; have HX4 := Lib.hid (HX3.out.trans hx4); clear hx4; obtain ⟨k0, k1, k2, kl, k4, k5, k6, k7, k8⟩ := HC.out w4 HX4.out)
        | (go_at_call 29; (with_reducible refine (refOf_any _ _).mono ?_); rintro e w5 ⟨rfl, hx5⟩; clear k0 k1 k2 kl k4 k5 k6 k7 k8; have HX5 := Lib.hid (HX4.out.trans ((Ext.alloc (Ext.refl _) _).trans hx5)); clear hx5; obtain ⟨k0, k1, k2, kl, k4, k5, k6, k7, k8⟩ := HC.out w5 HX5.out))
      have hxx := HX1.out.trans HX5.out
      exact bodyPost_ret (v := rv (((q0.tmod 1000000).tmod 1000), 1)) (by simp [results, Try.results23, go_sem, k4, k5, k6, k7, k8]) rfl ⟨_, rfl, int_RiR (by omega), (by with_reducible repeat (first | exact Ext.refl _ | assumption | apply Ext.drewN | apply Ext.drew | apply Ext.alloc | (refine Ext.setCell ?_ (by simp <;> omega) _) | (refine Ext.trans ?_ (by assumption))))⟩
    · go_enter Try.func23, Try.ntmps23
      go_wp2_with (first
        | (go_at_call_of 49 (Value.int .i64 q2); (with_reducible refine (HM0.out _).mono ?_); rintro e w2 ⟨rfl, hx2⟩; obtain ⟨k0, k1, k2, kl, k4, k5, k6, k7, k8⟩ := HC.out w2 hx2; have HX2 := Lib.hid hx2; clear hx2)
        | (go_at_call_of 49 (Value.int .i64 q1); (with_reducible refine (HM1.out _).mono ?_); rintro e w3 ⟨rfl, hx3⟩; clear k0 k1 k2 kl k4 k5 k6 k7 k8; have HX3 := Lib.hid (HX2.out.trans hx3); clear hx3; obtain ⟨k0, k1, k2, kl, k4, k5, k6, k7, k8⟩ := HC.out w3 HX3.out) | (go_at_call 40; (with_reducible refine (HK.out _).mono ?_); rintro e w4 ⟨rfl, hx4⟩; clear k0 k1 k2 kl k4 k5 k6 k7 k8; have HX4 := Lib.hid (HX3.out.trans hx4); clear hx4; obtain ⟨k0, k1, k2, kl, k4, k5, k6, k7, k8⟩ := HC.out w4 HX4.out))
      have hxx := HX1.out.trans HX4.out
      exact bodyPost_ret (v := rv (r1, r2)) (by simp [results, Try.results23, go_sem, k4, k5, k6, k7, k8]) rfl ⟨_, rfl, HOK.out _ rfl, (by with_reducible repeat (first | exact Ext.refl _ | assumption | apply Ext.drewN | apply Ext.drew | apply Ext.alloc | (refine Ext.setCell ?_ (by simp <;> omega) _) | (refine Ext.trans ?_ (by assumption))))⟩
  · skip
    skip
    have HK := Lib.hid (fun W => rMake_any q0 1 (by omega) (by omega) (by omega) (by omega) W)
    have b1000 := tmod_bd q0 (m := 1000) (by omega)
    have HOK := Lib.hid (fun p (h : normS q0 1 = (p, true)) => normS_ok (by omega) h)
    obtain ⟨⟨⟨r1, r2⟩, ok⟩, hN⟩ : ∃ y, y = normS q0 1 := ⟨_, rfl⟩
    rw [← hN] at HK HOK
    clear hN
    cases ok
    · clear HOK
      go_enter Try.func23, Try.ntmps23
      go_wp2_with (first
        | (go_at_call_of 49 (Value.int .i64 q2); (with_reducible refine (HM0.out _).mono ?_); rintro e w2 ⟨rfl, hx2⟩; obtain ⟨k0, k1, k2, kl, k4, k5, k6, k7, k8⟩ := HC.out w2 hx2; have HX2 := Lib.hid hx2; clear hx2)
         | (go_at_call 40; (with_reducible refine (HK.out _).mono ?_); rintro e w4 ⟨rfl, hx4⟩; clear k0 k1 k2 kl k4 k5 k6 k7 k8; have HX4 := Lib.hid (HX2.out.trans hx4); clear hx4; obtain ⟨k0, k1, k2, kl, k4, k5, k6, k7, k8⟩ := HC.out w4 HX4.out)
        | (go_at_call 29; (with_reducible refine (refOf_any _ _).mono ?_); rintro e w5 ⟨rfl, hx5⟩; clear k0 k1 k2 kl k4 k5 k6 k7 k8; have HX5 := Lib.hid (HX4.out.trans ((Ext.alloc (Ext.refl _) _).trans hx5)); clear hx5; obtain ⟨k0, k1, k2, kl, k4, k5, k6, k7, k8⟩ := HC.out w5 HX5.out))
      have hxx := HX1.out.trans HX5.out
      exact bodyPost_ret (v := rv ((q0.tmod 1000), 1)) (by simp [results, Try.results23, go_sem, k4, k5, k6, k7, k8]) rfl ⟨_, rfl, int_RiR (by omega), (by with_reducible repeat (first | exact Ext.refl _ | assumption | apply Ext.drewN | apply Ext.drew | apply Ext.alloc | (refine Ext.setCell ?_ (by simp <;> omega) _) | (refine Ext.trans ?_ (by assumption))))⟩
    · go_enter Try.func23, Try.ntmps23
      go_wp2_with (first
        | (go_at_call_of 49 (Value.int .i64 q2); (with_reducible refine (HM0.out _).mono ?_); rintro e w2 ⟨rfl, hx2⟩; obtain ⟨k0, k1, k2, kl, k4, k5, k6, k7, k8⟩ := HC.out w2 hx2; have HX2 := Lib.hid hx2; clear hx2)
         | (go_at_call 40; (with_reducible refine (HK.out _).mono ?_); rintro e w4 ⟨rfl, hx4⟩; clear k0 k1 k2 kl k4 k5 k6 k7 k8; have HX4 := Lib.hid (HX2.out.trans hx4); clear hx4; obtain ⟨k0, k1, k2, kl, k4, k5, k6, k7, k8⟩ := HC.out w4 HX4.out))
      have hxx := HX1.out.trans HX4.out
      exact bodyPost_ret (v := rv (r1, r2)) (by simp [results, Try.results23, go_sem, k4, k5, k6, k7, k8]) rfl ⟨_, rfl, HOK.out _ rfl, (by with_reducible repeat (first | exact Ext.refl _ | assumption | apply Ext.drewN | apply Ext.drew | apply Ext.alloc | (refine Ext.setCell ?_ (by simp <;> omega) _) | (refine Ext.trans ?_ (by assumption))))⟩
  · skip
    have bq := tmod_bd q0 (m := 100) (by omega)
    skip
    have HM1 := Lib.hid (fun W => rMod_any q1 100 (by omega) (by omega) h10 h11 W)
    have hbx := modZ_bd q1 (m := 100) (by omega)
    obtain ⟨x, hx⟩ : ∃ x, x = modZ q1 100 := ⟨_, rfl⟩
    rw [← hx] at HM1 hbx
    clear hx
    skip
    have HK := Lib.hid (fun W => rMake_any (4611686018427387904 + q0.tmod 100) (1 + x) (by omega) (by omega) (by omega) (by omega) W)
    have b1000 := tmod_bd (4611686018427387904 + q0.tmod 100) (m := 1000) (by omega)
    have HOK := Lib.hid (fun p (h : normS (4611686018427387904 + q0.tmod 100) (1 + x) = (p, true)) => normS_ok (by omega) h)
    obtain ⟨⟨⟨r1, r2⟩, ok⟩, hN⟩ : ∃ y, y = normS (4611686018427387904 + q0.tmod 100) (1 + x) := ⟨_, rfl⟩
    rw [← hN] at HK HOK
    clear hN
    cases ok
    · clear HOK
      go_enter Try.func23, Try.ntmps23
      go_wp2_with (first
        | (go_at_call_of 49 (Value.int .i64 q2); (with_reducible refine (HM0.out _).mono ?_); rintro e w2 ⟨rfl, hx2⟩; obtain ⟨k0, k1, k2, kl, k4, k5, k6, k7, k8⟩ := HC.out w2 hx2; have HX2 := Lib.hid hx2; clear hx2)
        | (go_at_call_of 49 (Value.int .i64 q1); (with_reducible refine (HM1.out _).mono ?_); rintro e w3 ⟨rfl, hx3⟩; clear k0 k1 k2 kl k4 k5 k6 k7 k8; have HX3 := Lib.hid (HX2.out.trans hx3); clear hx3; obtain ⟨k0, k1, k2, kl, k4, k5, k6, k7, k8⟩ := HC.out w3 HX3.out) | (go_at_call 40; (with_reducible refine (HK.out _).mono ?_); rintro e w4 ⟨rfl, hx4⟩; clear k0 k1 k2 kl k4 k5 k6 k7 k8; have HX4 := Lib.hid (HX3.out.trans hx4); clear hx4; obtain ⟨k0, k1, k2, kl, k4, k5, k6, k7, k8⟩ := HC.out w4 HX4.out)
        | (go_at_call 29; (with_reducible refine (refOf_any _ _).mono ?_); rintro e w5 ⟨rfl, hx5⟩; clear k0 k1 k2 kl k4 k5 k6 k7 k8; have HX5 := Lib.hid (HX4.out.trans ((Ext.alloc (Ext.refl _) _).trans hx5)); clear hx5; obtain ⟨k0, k1, k2, kl, k4, k5, k6, k7, k8⟩ := HC.out w5 HX5.out))
      have hxx := HX1.out.trans HX5.out
      exact bodyPost_ret (v := rv (((4611686018427387904 + q0.tmod 100) % 1000), 1)) (by simp [results, Try.results23, go_sem, k4, k5, k6, k7, k8]) rfl ⟨_, rfl, int_RiR (by omega), (by with_reducible repeat (first | exact Ext.refl _ | assumption | apply Ext.drewN | apply Ext.drew | apply Ext.alloc | (refine Ext.setCell ?_ (by simp <;> omega) _) | (refine Ext.trans ?_ (by assumption))))⟩
    · go_enter Try.func23, Try.ntmps23
      go_wp2_with (first
        | (go_at_call_of 49 (Value.int .i64 q2); (with_reducible refine (HM0.out _).mono ?_); rintro e w2 ⟨rfl, hx2⟩; obtain ⟨k0, k1, k2, kl, k4, k5, k6, k7, k8⟩ := HC.out w2 hx2; have HX2 := Lib.hid hx2; clear hx2)
        | (go_at_call_of 49 (Value.int .i64 q1); (with_reducible refine (HM1.out _).mono ?_); rintro e w3 ⟨rfl, hx3⟩; clear k0 k1 k2 kl k4 k5 k6 k7 k8; have HX3 := Lib.hid (HX2.out.trans hx3); clear hx3; obtain ⟨k0, k1, k2, kl, k4, k5, k6, k7, k8⟩ := HC.out w3 HX3.out) | (go_at_call 40; (with_reducible refine (HK.out _).mono ?_); rintro e w4 ⟨rfl, hx4⟩; clear k0 k1 k2 kl k4 k5 k6 k7 k8; have HX4 := Lib.hid (HX3.out.trans hx4); clear hx4; obtain ⟨k0, k1, k2, kl, k4, k5, k6, k7, k8⟩ := HC.out w4 HX4.out))
      have hxx := HX1.out.trans HX4.out
      exact bodyPost_ret (v := rv (r1, r2)) (by simp [results, Try.results23, go_sem, k4, k5, k6, k7, k8]) rfl ⟨_, rfl, HOK.out _ rfl, (by with_reducible repeat (first | exact Ext.refl _ | assumption | apply Ext.drewN | apply Ext.drew | apply Ext.alloc | (refine Ext.setCell ?_ (by simp <;> omega) _) | (refine Ext.trans ?_ (by assumption))))⟩
  · skip
    skip
    have HM1 := Lib.hid (fun W => rMod_any q1 100 (by omega) (by omega) h10 h11 W)
    have hbx := modZ_bd q1 (m := 100) (by omega)
    obtain ⟨x, hx⟩ : ∃ x, x = modZ q1 100 := ⟨_, rfl⟩
    rw [← hx] at HM1 hbx
    clear hx
    skip
    have HK := Lib.hid (fun W => rMake_any (-9223372036854775808) (1 + 2 * x) (by omega) (by omega) (by omega) (by omega) W)
    have b1000 := tmod_bd (-9223372036854775808) (m := 1000) (by omega)
    have HOK := Lib.hid (fun p (h : normS (-9223372036854775808) (1 + 2 * x) = (p, true)) => normS_ok (by omega) h)
    obtain ⟨⟨⟨r1, r2⟩, ok⟩, hN⟩ : ∃ y, y = normS (-9223372036854775808) (1 + 2 * x) := ⟨_, rfl⟩
    rw [← hN] at HK HOK
    clear hN
    cases ok
    · clear HOK
      go_enter Try.func23, Try.ntmps23
      go_wp2_with (first
        | (go_at_call_of 49 (Value.int .i64 q2); (with_reducible refine (HM0.out _).mono ?_); rintro e w2 ⟨rfl, hx2⟩; obtain ⟨k0, k1, k2, kl, k4, k5, k6, k7, k8⟩ := HC.out w2 hx2; have HX2 := Lib.hid hx2; clear hx2)
        | (go_at_call_of 49 (Value.int .i64 q1); (with_reducible refine (HM1.out _).mono ?_); rintro e w3 ⟨rfl, hx3⟩; clear k0 k1 k2 kl k4 k5 k6 k7 k8; have HX3 := Lib.hid (HX2.out.trans hx3); clear hx3; obtain ⟨k0, k1, k2, kl, k4, k5, k6, k7, k8⟩ := HC.out w3 HX3.out) | (go_at_call 40; (with_reducible refine (HK.out _).mono ?_); rintro e w4 ⟨rfl, hx4⟩; clear k0 k1 k2 kl k4 k5 k6 k7 k8; have HX4 := Lib.hid (HX3.out.trans hx4); clear hx4; obtain ⟨k0, k1, k2, kl, k4, k5, k6, k7, k8⟩ := HC.out w4 HX4.out)
        | (go_at_call 29; (with_reducible refine (refOf_any _ _).mono ?_); rintro e w5 ⟨rfl, hx5⟩; clear k0 k1 k2 kl k4 k5 k6 k7 k8; have HX5 := Lib.hid (HX4.out.trans ((Ext.alloc (Ext.refl _) _).trans hx5)); clear hx5; obtain ⟨k0, k1, k2, kl, k4, k5, k6, k7, k8⟩ := HC.out w5 HX5.out))
      have hxx := HX1.out.trans HX5.out
      exact bodyPost_ret (v := rv (((-9223372036854775808).tmod 1000), 1)) (by simp [results, Try.results23, go_sem, k4, k5, k6, k7, k8]) rfl ⟨_, rfl, int_RiR (by omega), (by with_reducible repeat (first | exact Ext.refl _ | assumption | apply Ext.drewN | apply Ext.drew | apply Ext.alloc | (refine Ext.setCell ?_ (by simp <;> omega) _) | (refine Ext.trans ?_ (by assumption))))⟩
    · go_enter Try.func23, Try.ntmps23
      go_wp2_with (first
        | (go_at_call_of 49 (Value.int .i64 q2); (with_reducible refine (HM0.out _).mono ?_); rintro e w2 ⟨rfl, hx2⟩; obtain ⟨k0, k1, k2, kl, k4, k5, k6, k7, k8⟩ := HC.out w2 hx2; have HX2 := Lib.hid hx2; clear hx2)
        | (go_at_call_of 49 (Value.int .i64 q1); (with_reducible refine (HM1.out _).mono ?_); rintro e w3 ⟨rfl, hx3⟩; clear k0 k1 k2 kl k4 k5 k6 k7 k8; have HX3 := Lib.hid (HX2.out.trans hx3); clear hx3; obtain ⟨k0, k1, k2, kl, k4, k5, k6, k7, k8⟩ := HC.out w3 HX3.out) | (go_at_call 40; (with_reducible refine (HK.out _).mono ?_); rintro e w4 ⟨rfl, hx4⟩; clear k0 k1 k2 kl k4 k5 k6 k7 k8; have HX4 := Lib.hid (HX3.out.trans hx4); clear hx4; obtain ⟨k0, k1, k2, kl, k4, k5, k6, k7, k8⟩ := HC.out w4 HX4.out))
      have hxx := HX1.out.trans HX4.out
      exact bodyPost_ret (v := rv (r1, r2)) (by simp [results, Try.results23, go_sem, k4, k5, k6, k7, k8]) rfl ⟨_, rfl, HOK.out _ rfl, (by with_reducible repeat (first | exact Ext.refl _ | assumption | apply Ext.drewN | apply Ext.drew | apply Ext.alloc | (refine Ext.setCell ?_ (by simp <;> omega) _) | (refine Ext.trans ?_ (by assumption))))⟩
  · skip
    have bq := tmod_bd q0 (m := 100) (by omega)
    skip
    have HM1 := Lib.hid (fun W => rMod_any q1 100 (by omega) (by omega) h10 h11 W)
    have hbx := modZ_bd q1 (m := 100) (by omega)
    obtain ⟨x, hx⟩ : ∃ x, x = modZ q1 100 := ⟨_, rfl⟩
    rw [← hx] at HM1 hbx
    clear hx
    skip
    have HK := Lib.hid (fun W => rMake_any (q0.tmod 100) (4611686018427387904 + x) (by omega) (by omega) (by omega) (by omega) W)
    have b1000 := tmod_bd (q0.tmod 100) (m := 1000) (by omega)
    have HOK := Lib.hid (fun p (h : normS (q0.tmod 100) (4611686018427387904 + x) = (p, true)) => normS_ok (by omega) h)
    obtain ⟨⟨⟨r1, r2⟩, ok⟩, hN⟩ : ∃ y, y = normS (q0.tmod 100) (4611686018427387904 + x) := ⟨_, rfl⟩
    rw [← hN] at HK HOK
    clear hN
    cases ok
    · clear HOK
      go_enter Try.func23, Try.ntmps23
      go_wp2_with (first
        | (go_at_call_of 49 (Value.int .i64 q2); (with_reducible refine (HM0.out _).mono ?_); rintro e w2 ⟨rfl, hx2⟩; obtain ⟨k0, k1, k2, kl, k4, k5, k6, k7, k8⟩ := HC.out w2 hx2; have HX2 := Lib.hid hx2; clear hx2)
        | (go_at_call_of 49 (Value.int .i64 q1); (with_reducible refine (HM1.out _).mono ?_); rintro e w3 ⟨rfl, hx3⟩; clear k0 k1 k2 kl k4 k5 k6 k7 k8; have HX3 := Lib.hid (HX2.out.trans hx3); clear hx3; obtain ⟨k0, k1, k2, kl, k4, k5, k6, k7, k8⟩ := HC.out w3 HX3.out) | (go_at_call 40; (with_reducible refine (HK.out _).mono ?_); rintro e w4 ⟨rfl, hx4⟩; clear k0 k1 k2 kl k4 k5 k6 k7 k8; have HX4 := Lib.hid (HX3.out.trans hx4); clear hx4; obtain ⟨k0, k1, k2, kl, k4, k5, k6, k7, k8⟩ := HC.out w4 HX4.out)
        | (go_at_call 29; (with_reducible refine (refOf_any _ _).mono ?_); rintro e w5 ⟨rfl, hx5⟩; clear k0 k1 k2 kl k4 k5 k6 k7 k8; have HX5 := Lib.hid (HX4.out.trans ((Ext.alloc (Ext.refl _) _).trans hx5)); clear hx5; obtain ⟨k0, k1, k2, kl, k4, k5, k6, k7, k8⟩ := HC.out w5 HX5.out))
      have hxx := HX1.out.trans HX5.out
      exact bodyPost_ret (v := rv (((q0.tmod 100).tmod 1000), 1)) (by simp [results, Try.results23, go_sem, k4, k5, k6, k7, k8]) rfl ⟨_, rfl, int_RiR (by omega), (by with_reducible repeat (first | exact Ext.refl _ | assumption | apply Ext.drewN | apply Ext.drew | apply Ext.alloc | (refine Ext.setCell ?_ (by simp <;> omega) _) | (refine Ext.trans ?_ (by assumption))))⟩
    · go_enter Try.func23, Try.ntmps23
      go_wp2_with (first
        | (go_at_call_of 49 (Value.int .i64 q2); (with_reducible refine (HM0.out _).mono ?_); rintro e w2 ⟨rfl, hx2⟩; obtain ⟨k0, k1, k2, kl, k4, k5, k6, k7, k8⟩ := HC.out w2 hx2; have HX2 := Lib.hid hx2; clear hx2)
        | (go_at_call_of 49 (Value.int .i64 q1); (with_reducible refine (HM1.out _).mono ?_); rintro e w3 ⟨rfl, hx3⟩; clear k0 k1 k2 kl k4 k5 k6 k7 k8; have HX3 := Lib.hid (HX2.out.trans hx3); clear hx3; obtain ⟨k0, k1, k2, kl, k4, k5, k6, k7, k8⟩ := HC.out w3 HX3.out) | (go_at_call 40; (with_reducible refine (HK.out _).mono ?_); rintro e w4 ⟨rfl, hx4⟩; clear k0 k1 k2 kl k4 k5 k6 k7 k8; have HX4 := Lib.hid (HX3.out.trans hx4); clear hx4; obtain ⟨k0, k1, k2, kl, k4, k5, k6, k7, k8⟩ := HC.out w4 HX4.out))
      have hxx := HX1.out.trans HX4.out
      exact bodyPost_ret (v := rv (r1, r2)) (by simp [results, Try.results23, go_sem, k4, k5, k6, k7, k8]) rfl ⟨_, rfl, HOK.out _ rfl, (by with_reducible repeat (first | exact Ext.refl _ | assumption | apply Ext.drewN | apply Ext.drew | apply Ext.alloc | (refine Ext.setCell ?_ (by simp <;> omega) _) | (refine Ext.trans ?_ (by assumption))))⟩
end Go.Proofs.Ytgkdeknfmmgbdaa

namespace Go.Proofs.Ytgkdeknfmmgbdaa
set_option linter.unusedVariables false
set_option linter.unusedSimpArgs false
open Go.RowKit

mutual
/-- All names of the tree have N. -/
def namesIn (N : ByteArray → Prop) : Ex → Prop
  | .mk op _ nm ts => ((op.toList == [110, 97, 109, 101]) = true → N nm) ∧ namesL N ts
def namesL (N : ByteArray → Prop) : List Ex → Prop
  | [] => True
  | t :: ts => namesIn N t ∧ namesL N ts
end
mutual
theorem valueE_congr {vs vs' : Vals} {N : ByteArray → Prop} (h : ∀ nm, N nm → look vs' nm = look vs nm) : ∀ t, namesIn N t → valueE vs' t = valueE vs t
  | .mk op n nm ts, hn => by
    unfold namesIn at hn
    unfold valueE
    by_cases h1 : (op.toList == [110, 117, 109]) = true
    · rw [if_pos h1, if_pos h1]
    · rw [if_neg h1, if_neg h1]
      by_cases h2 : (op.toList == [110, 97, 109, 101]) = true
      · rw [if_pos h2, if_pos h2, h nm (hn.1 h2)]
      · rw [if_neg h2, if_neg h2, valueL_congr h ts hn.2]
theorem valueL_congr {vs vs' : Vals} {N : ByteArray → Prop} (h : ∀ nm, N nm → look vs' nm = look vs nm) : ∀ ts, namesL N ts → valueL vs' ts = valueL vs ts
  | [], _ => by unfold valueL; rfl
  | t :: ts, hn => by
    unfold namesL at hn
    unfold valueL
    rw [valueE_congr h t hn.1, valueL_congr h ts hn.2]
end
theorem evalI_congr {vs vs' : Vals} {N : ByteArray → Prop} (h : ∀ nm, N nm → look vs' nm = look vs nm) (t : Ex) (hn : namesIn N t) : evalI vs' t = evalI vs t := by
  unfold evalI
  rw [valueE_congr h t hn]

abbrev isName (nm : ByteArray) : Prop := ∃ i, i < 4 ∧ nm = nameB4 i
abbrev otherB : ByteArray := ⟨#[111, 116, 104, 101, 114]⟩
def otherV (n : Int) (vs : Vals) : Vals := (otherB, n) :: (vs ++ (otherB, 1) :: vs.map fun x => (x.1, n))
theorem look_app (a b : Vals) (nm : ByteArray) : look (a ++ b) nm = (match look a nm with | some k => some k | none => look b nm) := by
  induction a with
  | nil => rfl
  | cons x a ih =>
    rw [List.cons_append, look, look]
    split
    · rfl
    · exact ih
theorem look_map (a : Vals) (nm : ByteArray) (n : Int) (h : look a nm = none) : look (a.map fun x => (x.1, n)) nm = none := by
  induction a with
  | nil => rfl
  | cons x a ih =>
    rw [look] at h
    rw [List.map_cons, look]
    split at h
    · cases h
    · rename_i hx
      rw [if_neg hx]
      exact ih h
theorem on0 : (otherB.toList == (nameB4 0).toList) = false := by kernel_rfl
theorem on1 : (otherB.toList == (nameB4 1).toList) = false := by kernel_rfl
theorem on2 : (otherB.toList == (nameB4 2).toList) = false := by kernel_rfl
theorem on3 : (otherB.toList == (nameB4 3).toList) = false := by kernel_rfl
theorem oo0 : ((opNm 0).toList == [110, 97, 109, 101]) = false := by kernel_rfl
theorem oo1 : ((opNm 1).toList == [110, 97, 109, 101]) = false := by kernel_rfl
theorem oo2 : ((opNm 2).toList == [110, 97, 109, 101]) = false := by kernel_rfl
theorem oo3 : ((opNm 3).toList == [110, 97, 109, 101]) = false := by kernel_rfl
theorem oo4 : ((opNm 4).toList == [110, 97, 109, 101]) = false := by kernel_rfl
theorem oo5 : ((opNm 5).toList == [110, 97, 109, 101]) = false := by kernel_rfl
theorem look_other (n : Int) (vs : Vals) (nm : ByteArray) (h : isName nm) : look (otherV n vs) nm = look vs nm := by
  have ho : (otherB.toList == nm.toList) = false := by
    obtain ⟨i, hi, rfl⟩ := h
    match i, hi with
    | 0, _ => exact on0
    | 1, _ => exact on1
    | 2, _ => exact on2
    | 3, _ => exact on3
  rw [otherV, look, if_neg (by rw [ho]; decide), look_app]
  cases hl : look vs nm
  · show look ((otherB, 1) :: _) nm = none
    rw [look, if_neg (by rw [ho]; decide)]
    exact look_map vs nm n hl
  · rfl
theorem names_op {s : ByteArray} {a b : Ex} (hs : (s.toList == [110, 97, 109, 101]) = false) (ha : namesIn isName a) (hb : namesIn isName b) : namesIn isName (opE' s a b) := by
  unfold namesIn
  refine ⟨fun h => absurd (hs.symm.trans h) (by decide), ?_⟩
  unfold namesL
  refine ⟨ha, ?_⟩
  unfold namesL
  refine ⟨hb, ?_⟩
  unfold namesL
  trivial
theorem names_leaf {op : ByteArray} {n : Int × Int} {nm : ByteArray} (h : (op.toList == [110, 97, 109, 101]) = true → isName nm) : namesIn isName (leaf op n nm) := by
  unfold leaf namesIn
  refine ⟨h, ?_⟩
  unfold namesL
  trivial
theorem madeStep_names (st : List Ex) (z : Int) (h : ∀ t ∈ st, namesIn isName t) : ∀ t ∈ madeStep st z, namesIn isName t := by
  obtain ⟨n, hn⟩ : ∃ n, n = modZ z 1000 := ⟨_, rfl⟩
  have hb := modZ_bd z (m := 1000) (by omega)
  rw [← hn] at hb
  rcases (show (n % 10 = 0 ∨ n % 10 = 1) ∨ (n % 10 = 2 ∨ n % 10 = 3 ∨ n % 10 = 4) ∨ 5 ≤ n % 10 by omega) with hr | hr | hr
  · rw [madeStep_num hn hr]
    intro t ht
    rcases List.mem_append.1 ht with ht | ht
    · exact h t ht
    · rw [List.mem_singleton.1 ht]; exact names_leaf (fun h => by rw [show (numB.toList == [110, 97, 109, 101]) = false by kernel_rfl] at h; cases h)
  · rw [madeStep_name hn hr]
    intro t ht
    rcases List.mem_append.1 ht with ht | ht
    · exact h t ht
    · rw [List.mem_singleton.1 ht]; exact names_leaf (fun _ => ⟨_, by omega, rfl⟩)
  · rcases Nat.lt_or_ge 1 st.length with h2 | h2
    · obtain ⟨i, hi⟩ : ∃ i, st.length = i + 2 := ⟨st.length - 2, by omega⟩
      have hst : st = st.take i ++ [st[i]'(by omega), st[i + 1]'(by omega)] := by
        conv => lhs; rw [← List.take_append_drop i st]
        rw [List.drop_eq_getElem_cons (by omega), List.drop_eq_getElem_cons (by omega), List.drop_eq_nil_of_le (by omega)]
      have ha := h _ (List.getElem_mem (show i < st.length by omega))
      have hb := h _ (List.getElem_mem (show i + 1 < st.length by omega))
      rw [hst, madeStep_op hn hr]
      intro t ht
      rcases List.mem_append.1 ht with ht | ht
      · exact h t (List.mem_of_mem_take ht)
      · rw [List.mem_singleton.1 ht]
        refine names_op ?_ ha hb
        match (n / 10 % 6).toNat, (show (n / 10 % 6).toNat < 6 by omega) with
        | 0, _ => exact oo0
        | 1, _ => exact oo1
        | 2, _ => exact oo2
        | 3, _ => exact oo3
        | 4, _ => exact oo4
        | 5, _ => exact oo5
    · rw [madeStep_skip hn hr h2]; exact h
theorem madeJoin_names (t : Ex) (ts : List Ex) (h : namesIn isName t) (hs : ∀ u ∈ ts, namesIn isName u) : namesIn isName (madeJoin t ts) := by
  induction ts generalizing t with
  | nil => exact h
  | cons a ts ih => exact ih _ (names_op (by kernel_rfl) h (hs a List.mem_cons_self)) (fun u hu => hs u (List.mem_cons_of_mem _ hu))
theorem madeE_names (ls : List Int) : namesIn isName (madeE ls) := by
  rw [madeE_fin ls 80 rfl]
  have key : ∀ (l : List Int) (st : List Ex), (∀ t ∈ st, namesIn isName t) → ∀ t ∈ l.foldl madeStep st, namesIn isName t := by
    intro l
    induction l with
    | nil => intro st h; exact h
    | cons z l ih => intro st h; exact ih _ (madeStep_names st z h)
  have h := key (ls.take 80) [] (fun t h => absurd h List.not_mem_nil)
  change ∀ t ∈ madeN ls 80, _ at h
  generalize madeN ls 80 = st at *
  match st with
  | [] => exact names_leaf (fun _ => ⟨0, by decide, rfl⟩)
  | t :: ts => exact madeJoin_names t ts (h t List.mem_cons_self) (fun u hu => h u (List.mem_cons_of_mem _ hu))
/-- A block of one value, just made. -/
theorem PR.fresh {B p : Nat} {w : World} {u : ByteArray × Int} (hb : B ≤ p) (hp : w.heap[p]? = some (.cells #[.string u.1, .int .i64 u.2] 51)) : PR B w (.slice (some ⟨p, 0, none⟩) 1 1) [u] :=
  ⟨rfl, .inr ⟨p, 1, _, rfl, hb, hp, Nat.le_refl _, by unfold maxLen; omega, rfl, rfl⟩⟩
/-- 'append' of a slice of values that is not empty. -/
theorem append_vals {ops : Array Oper} {rest : List Oper} {o : Oper} {a : Act} {Q : Exit → Act → World → Prop} {w : World} (hgd : o.guard = none) (s x : Operand)
    (ho : o.op = .call { callee := .builtin .append, args := #[s, x], argTypes := #[31, 31] }) (B : Nat) (v : Value) (vs : Vals) (hs : a.eval s = v) (hF : PR B w v vs)
    (us : Vals) (xv : Value) (hx : a.eval x = xv) (hX : VRd All w us xv) (hu : us ≠ []) (hn : vs.length + us.length < 1000000) (hB : B ≤ w.heap.size)
    (h : ∀ g cap w', PR B w' (.slice (some ⟨g, 0, none⟩) (vs.length + us.length) cap) (vs ++ us) → Below B w w' → wpList Try.prog ops Q rest (a.put o.dst (.slice (some ⟨g, 0, none⟩) (vs.length + us.length) cap)) w') : wpList Try.prog ops Q (o :: rest) a w := by
  obtain ⟨i0, hi, hz0, hz1, hz2⟩ := info_parts info51
  obtain ⟨base, c, rfl, hl, hr, hcs⟩ := hX
  obtain ⟨b, rfl, -, hcs⟩ := hcs.resolve_left hu
  have hlen : ∀ l : Vals, (l.flatMap cellsP).length = l.length * 2 := by
    intro l
    induction l with
    | nil => rfl
    | cons y l ih => rw [List.flatMap_cons, List.length_append, ih, List.length_cons, show (cellsP y).length = 2 from rfl]; omega
  have hpos : 0 < us.length := List.length_pos_iff.2 hu
  refine wpList_append_lies w hgd s x 31 ho B 51 i0 _ 2 24 (by kernel_rfl) hi hz0 hz1 hz2 rfl (by decide) v vs.length _ hs hF ⟨b, 0, none⟩ us.length c (us.flatMap cellsP) hx (hlen us) ?_ ?_ hpos (by unfold maxLen; omega) (by omega) hB w.heap.size rfl ?_
  · intro j cc hc
    rw [addr_add]
    have hj : j < us.length * 2 := by rw [← hlen us]; exact (List.getElem?_eq_some_iff.1 hc).1
    have hk : j / 2 < us.length := by omega
    have h2 := flat2 us (j / 2) hk
    have h3 := hcs (j / 2) hk
    rcases Nat.mod_two_eq_zero_or_one j with e | e
    · rw [show j = j / 2 * 2 by omega] at hc ⊢
      rw [h2.1] at hc
      rw [h3.1, hc]
    · rw [show j = j / 2 * 2 + 1 by omega] at hc ⊢
      rw [h2.2] at hc
      rw [h3.2, hc]
  · intro cc hc
    obtain ⟨y, -, hy⟩ := List.mem_flatMap.1 hc
    simp [cellsP] at hy
    rcases hy with rfl | rfl <;> rfl
  · intro g cap w' hw hg hat hlt
    refine h g cap w' ?_ ⟨hg.os, hg.tape, hg.output, hg.size, fun k hk => hg.block k (by omega) ?_⟩
    · show w'.ownsRow B 51 2 _ (vs ++ us).length _
      rw [List.flatMap_append, List.length_append]
      exact hw
    · intro e
      have := (hF.lt k e.symm).1
      omega
/-- 'append' of a slice of values, which is nil where it is empty, to one that is not. -/
theorem append_vals' {ops : Array Oper} {rest : List Oper} {o : Oper} {a : Act} {Q : Exit → Act → World → Prop} {w : World} (hgd : o.guard = none) (s x : Operand)
    (ho : o.op = .call { callee := .builtin .append, args := #[s, x], argTypes := #[31, 31] }) (B : Nat) (v : Value) (vs : Vals) (hs : a.eval s = v) (hF : PR B w v vs) (hv : vs ≠ [])
    (us : Vals) (xv : Value) (hx : a.eval x = xv) (hX : VRd All w us xv) (hu : us = [] → xv = .slice none 0 0) (hn : vs.length + us.length < 1000000) (hB : B ≤ w.heap.size)
    (h : ∀ g cap w', PR B w' (.slice (some ⟨g, 0, none⟩) (vs.length + us.length) cap) (vs ++ us) → Below B w w' → wpList Try.prog ops Q rest (a.put o.dst (.slice (some ⟨g, 0, none⟩) (vs.length + us.length) cap)) w') : wpList Try.prog ops Q (o :: rest) a w := by
  by_cases hu0 : us = []
  · obtain ⟨i0, hi, -⟩ := info_parts info51
    refine wpList_append_own_none hgd s x 31 ho B 51 i0 2 (by kernel_rfl) hi v _ _ hs hF (hx.trans (hu hu0)) ?_
    subst hu0
    obtain ⟨g, cap, rfl, -⟩ := hF.form (List.length_pos_iff.2 hv)
    exact h g cap w (by simpa using hF) (Below.refl _ _)
  · exact append_vals hgd s x ho B v vs hs hF us xv hx hX hu0 hn hB h
theorem evalI_other (n : Int) (vs : Vals) (ls : List Int) : evalI (otherV n vs) (madeE ls) = evalI vs (madeE ls) :=
  evalI_congr (fun nm h => look_other n vs nm h) _ (madeE_names ls)
abbrev missB : ByteArray := ⟨#[109, 105, 115, 115, 105, 110, 103]⟩
theorem look_none {vs : Vals} {nm : ByteArray} (h : ∀ x ∈ vs, (x.1.toList == nm.toList) = false) : look vs nm = none := by
  induction vs with
  | nil => rfl
  | cons x l ih =>
    rw [look, if_neg (by rw [h x List.mem_cons_self]; decide)]
    exact ih fun y hy => h y (List.mem_cons_of_mem _ hy)
theorem valN_names (k : Nat) (l : List Int) : ∀ x ∈ valN k l, isName x.1 := by
  induction l generalizing k with
  | nil => intro x hx; cases hx
  | cons z l ih =>
    intro x hx
    rw [valN] at hx
    rcases List.mem_cons.1 hx with rfl | hx
    · exact ⟨k % 4, by omega, rfl⟩
    · exact ih _ x hx
theorem mn0 : ((nameB4 0).toList == missB.toList) = false := by kernel_rfl
theorem mn1 : ((nameB4 1).toList == missB.toList) = false := by kernel_rfl
theorem mn2 : ((nameB4 2).toList == missB.toList) = false := by kernel_rfl
theorem mn3 : ((nameB4 3).toList == missB.toList) = false := by kernel_rfl
theorem miss_name {nm : ByteArray} (h : isName nm) : (nm.toList == missB.toList) = false := by
  obtain ⟨i, hi, rfl⟩ := h
  match i, hi with
  | 0, _ => exact mn0
  | 1, _ => exact mn1
  | 2, _ => exact mn2
  | 3, _ => exact mn3
theorem look_miss (n : Int) (vs : Vals) (h : ∀ x ∈ vs, isName x.1) : look (otherV n vs) missB = none := by
  have ho : (otherB.toList == missB.toList) = false := by kernel_rfl
  refine look_none fun x hx => ?_
  unfold otherV at hx
  simp only [List.mem_cons, List.mem_append, List.mem_map] at hx
  rcases hx with rfl | hx | rfl | ⟨y, hy, rfl⟩
  · exact ho
  · exact miss_name (h x hx)
  · exact ho
  · exact miss_name (h y hy)
abbrev exMiss : Ex := opE' addB (nameE missB) (numE (1, 1))
theorem evalI_miss (n : Int) (vs : Vals) (h : ∀ x ∈ vs, isName x.1) : evalI (otherV n vs) exMiss = ((0, 0), 13) := by
  have hl := look_miss n vs h
  generalize otherV n vs = us at *
  have hw : wrongI exMiss = 0 := by decide +kernel
  have hv : valueE us (nameE missB) = .error 13 := by
    unfold valueE
    rw [if_neg (by decide +kernel), if_pos (by decide +kernel), hl]
  unfold evalI
  rw [if_pos hw]
  have : valueE us exMiss = .error 13 := by
    unfold valueE
    rw [if_neg (by decide +kernel), if_neg (by decide +kernel)]
    unfold valueL valueL valueL
    simp only [hv]
  rw [this]
theorem otherV_range {n : Int} (hn : -9223372036854775808 ≤ n ∧ n ≤ 9223372036854775807) {vs : Vals} (h : VR vs) : VR (otherV n vs) := by
  intro x hx
  unfold otherV at hx
  simp only [List.mem_cons, List.mem_append, List.mem_map] at hx
  rcases hx with rfl | hx | rfl | ⟨y, hy, rfl⟩
  · exact hn
  · exact h x hx
  · exact ⟨by decide, by decide⟩
  · exact hn
end Go.Proofs.Ytgkdeknfmmgbdaa

namespace Go.Proofs.Ytgkdeknfmmgbdaa
set_option linter.unusedVariables false
set_option linter.unusedSimpArgs false
open Go.RowKit

theorem opIx_at0 : opIx (opNm 0) = 0 := by decide +kernel
theorem opIx_at1 : opIx (opNm 1) = 1 := by decide +kernel
theorem opIx_at2 : opIx (opNm 2) = 2 := by decide +kernel
theorem opIx_at3 : opIx (opNm 3) = 3 := by decide +kernel
theorem opIx_at4 : opIx (opNm 4) = 4 := by decide +kernel
theorem opIx_at5 : opIx (opNm 5) = 5 := by decide +kernel
theorem opIx_at (i : Nat) (h : i < 6) : opIx (opNm i) = i := by
  match i, h with
  | 0, _ => exact opIx_at0
  | 1, _ => exact opIx_at1
  | 2, _ => exact opIx_at2
  | 3, _ => exact opIx_at3
  | 4, _ => exact opIx_at4
  | 5, _ => exact opIx_at5
theorem on_num0 : ((opNm 0).toList == [110, 117, 109]) = false := by kernel_rfl
theorem on_num1 : ((opNm 1).toList == [110, 117, 109]) = false := by kernel_rfl
theorem on_num2 : ((opNm 2).toList == [110, 117, 109]) = false := by kernel_rfl
theorem on_num3 : ((opNm 3).toList == [110, 117, 109]) = false := by kernel_rfl
theorem on_num4 : ((opNm 4).toList == [110, 117, 109]) = false := by kernel_rfl
theorem on_num5 : ((opNm 5).toList == [110, 117, 109]) = false := by kernel_rfl
theorem op_not (i : Nat) (h : i < 6) : ((opNm i).toList == [110, 117, 109]) = false ∧ ((opNm i).toList == [110, 97, 109, 101]) = false := by
  match i, h with
  | 0, _ => exact ⟨on_num0, oo0⟩
  | 1, _ => exact ⟨on_num1, oo1⟩
  | 2, _ => exact ⟨on_num2, oo2⟩
  | 3, _ => exact ⟨on_num3, oo3⟩
  | 4, _ => exact ⟨on_num4, oo4⟩
  | 5, _ => exact ⟨on_num5, oo5⟩
theorem num_is : (numB.toList == [110, 117, 109]) = true := by kernel_rfl
theorem name_is : (nameB.toList == [110, 97, 109, 101]) = true := by kernel_rfl
theorem name_not : (nameB.toList == [110, 117, 109]) = false := by kernel_rfl
theorem nil_is : (nilB.toList == ([] : List UInt8)) = true := by kernel_rfl

theorem formed_numE (n : Int × Int) : formedB (numE n) = rightB n.1 n.2 := by
  unfold numE leaf formedB
  rw [if_pos num_is, nil_is]
  rfl
theorem formed_op' (i : Nat) (h : i < 6) (a b : Ex) : formedB (opE' (opNm i) a b) = (formedB a && formedB b) := by
  obtain ⟨h1, h2⟩ := op_not i h
  have hL : formedL [a, b] = (formedB a && formedB b) := by rw [formedL, formedL, formedL, Bool.and_true]
  have hn : (((i : Nat) : Int) == -1) = false := by rw [beq_eq_false_iff_ne]; omega
  unfold opE'
  rw [formedB, if_neg (by rw [h1]; decide), if_neg (by rw [h2]; decide), opIx_at i h, nil_is, hn, hL]
  rfl
theorem gcd_pos' {n d : Int} (hd : 0 < d) : 0 < Int.gcd n d := by
  rcases Nat.eq_zero_or_pos (Int.gcd n d) with h | h
  · have h2 := Int.gcd_dvd_right n d
    rw [h] at h2
    have := Int.zero_dvd.1 h2
    omega
  · exact h
theorem quickZ_right (n d : Int) (hd : 0 < d) : rightB (quickZ n d).1 (quickZ n d).2 = true := by
  obtain ⟨g, x, y, hg, hgp, hx, hy, hc, -, -⟩ := gcd_split n d hd
  have h1 : n.tdiv g = x := by rw [hx, Int.mul_tdiv_cancel_left _ (by omega)]
  have h2 : d.tdiv g = y := by rw [hy, Int.mul_tdiv_cancel_left _ (by omega)]
  unfold quickZ
  simp only [hg, h1, h2]
  exact (rightB_iff _ _).2 ⟨pos_of_mul hgp (by rw [← hy]; exact hd), hc⟩
theorem nb0 : ((nameB4 0).toList == ([] : List UInt8)) = false := by kernel_rfl
theorem nb1 : ((nameB4 1).toList == ([] : List UInt8)) = false := by kernel_rfl
theorem nb2 : ((nameB4 2).toList == ([] : List UInt8)) = false := by kernel_rfl
theorem nb3 : ((nameB4 3).toList == ([] : List UInt8)) = false := by kernel_rfl
theorem formed_nameE (nm : ByteArray) (h : (nm.toList == ([] : List UInt8)) = false) : formedB (nameE nm) = true := by
  unfold nameE leaf formedB
  rw [if_neg (by rw [name_not]; decide), if_pos name_is, h]
  rfl
theorem formed_name4 (i : Nat) (h : i < 4) : formedB (nameE (nameB4 i)) = true := by
  match i, h with
  | 0, _ => exact formed_nameE _ nb0
  | 1, _ => exact formed_nameE _ nb1
  | 2, _ => exact formed_nameE _ nb2
  | 3, _ => exact formed_nameE _ nb3
theorem madeStep_formed (st : List Ex) (z : Int) (h : ∀ t ∈ st, formedB t = true) : ∀ t ∈ madeStep st z, formedB t = true := by
  obtain ⟨n, hn⟩ : ∃ n, n = modZ z 1000 := ⟨_, rfl⟩
  have hb := modZ_bd z (m := 1000) (by omega)
  rw [← hn] at hb
  rcases (show (n % 10 = 0 ∨ n % 10 = 1) ∨ (n % 10 = 2 ∨ n % 10 = 3 ∨ n % 10 = 4) ∨ 5 ≤ n % 10 by omega) with hr | hr | hr
  · rw [madeStep_num hn hr]
    intro t ht
    rcases List.mem_append.1 ht with ht | ht
    · exact h t ht
    · rw [List.mem_singleton.1 ht, formed_numE]; exact quickZ_right _ _ (by omega)
  · rw [madeStep_name hn hr]
    intro t ht
    rcases List.mem_append.1 ht with ht | ht
    · exact h t ht
    · rw [List.mem_singleton.1 ht]; exact formed_name4 _ (by omega)
  · rcases Nat.lt_or_ge 1 st.length with h2 | h2
    · obtain ⟨i, hi⟩ : ∃ i, st.length = i + 2 := ⟨st.length - 2, by omega⟩
      have hst : st = st.take i ++ [st[i]'(by omega), st[i + 1]'(by omega)] := by
        conv => lhs; rw [← List.take_append_drop i st]
        rw [List.drop_eq_getElem_cons (by omega), List.drop_eq_getElem_cons (by omega), List.drop_eq_nil_of_le (by omega)]
      have ha := h _ (List.getElem_mem (show i < st.length by omega))
      have hb := h _ (List.getElem_mem (show i + 1 < st.length by omega))
      rw [hst, madeStep_op hn hr]
      intro t ht
      rcases List.mem_append.1 ht with ht | ht
      · exact h t (List.mem_of_mem_take ht)
      · rw [List.mem_singleton.1 ht, formed_op' _ (by omega), ha, hb]; rfl
    · rw [madeStep_skip hn hr h2]; exact h
theorem madeE_formed (ls : List Int) : formedB (madeE ls) = true := by
  rw [madeE_fin ls 80 rfl]
  have key : ∀ (l : List Int) (st : List Ex), (∀ t ∈ st, formedB t = true) → ∀ t ∈ l.foldl madeStep st, formedB t = true := by
    intro l
    induction l with
    | nil => intro st h; exact h
    | cons z l ih => intro st h; exact ih _ (madeStep_formed st z h)
  have h := key (ls.take 80) [] (fun t h => absurd h List.not_mem_nil)
  change ∀ t ∈ madeN ls 80, _ at h
  generalize madeN ls 80 = st at *
  match st with
  | [] => exact formed_name4 0 (by decide)
  | t :: ts =>
    have hj : ∀ (ts : List Ex) (t : Ex), formedB t = true → (∀ u ∈ ts, formedB u = true) → formedB (madeJoin t ts) = true := by
      intro ts
      induction ts with
      | nil => intro t h _; exact h
      | cons a l ih => intro t h h2; exact ih _ (by rw [show addB = opNm 0 from rfl, formed_op' 0 (by decide), h, h2 a List.mem_cons_self]; rfl) (fun u hu => h2 u (List.mem_cons_of_mem _ hu))
    exact hj ts t (h t List.mem_cons_self) (fun u hu => h u (List.mem_cons_of_mem _ hu))

theorem doI_right (i : Nat) {a b : Int × Int} (ha : rightB a.1 a.2 = true) (hb : rightB b.1 b.2 = true) {x : Int × Int} (h : doI i a b = (x, true)) : rightB x.1 x.2 = true := by
  obtain ⟨a0, a1⟩ := (rightB_iff _ _).1 ha
  obtain ⟨b0, b1⟩ := (rightB_iff _ _).1 hb
  have hD := Int.mul_pos a0 b0
  match i with
  | 0 => exact (normS_right hD ((addI_norm ha hb).symm.trans h)).1
  | 1 => exact (normS_right hD ((subI_norm ha hb).symm.trans h)).1
  | 2 => exact (normS_right hD ((mulI_norm ha hb).symm.trans h)).1
  | 3 =>
    by_cases h0 : b.1 = 0
    · have h' : quoI a b = (x, true) := h
      unfold quoI at h'
      rw [if_pos (by rw [ha, hb]; rfl), if_pos h0] at h'
      cases h'
    · exact (normS_right (Int.mul_pos a0 (by unfold sizeZ; split <;> omega)) ((quoI_norm ha hb h0).symm.trans h)).1
  | 4 =>
    have h' : minI a b = (x, true) := h
    unfold minI at h'
    injection h' with h' _
    subst h'
    split <;> assumption
  | _ + 5 =>
    have h' : maxI a b = (x, true) := h
    unfold maxI at h'
    injection h' with h' _
    subst h'
    split <;> assumption
theorem applyI_right (i : Nat) {a b : Int × Int} (ha : rightB a.1 a.2 = true) (hb : rightB b.1 b.2 = true) {x : Int × Int} (h : appE (applyI i a b) = .ok x) : rightB x.1 x.2 = true ∧ doI i a b = (x, true) := by
  unfold applyI at h
  by_cases h0 : i = 3 ∧ b.1 = 0
  · rw [if_pos h0] at h; cases h
  · rw [if_neg h0] at h
    by_cases h1 : (doI i a b).2 = true
    · rw [if_pos h1] at h
      injection h with h
      have hd : doI i a b = (x, true) := Prod.ext h h1
      exact ⟨doI_right i ha hb hd, hd⟩
    · rw [if_neg h1] at h; cases h
mutual
theorem valueE_right (vs : Vals) : ∀ (t : Ex) (x : Int × Int), formedB t = true → valueE vs t = .ok x → rightB x.1 x.2 = true
  | .mk op n nm ts, x, hf, hv => by
    unfold formedB at hf
    unfold valueE at hv
    by_cases h1 : (op.toList == [110, 117, 109]) = true
    · rw [if_pos h1] at hf hv
      injection hv with hv
      subst hv
      simp only [Bool.and_eq_true] at hf
      exact hf.2.2
    · rw [if_neg h1] at hf hv
      by_cases h2 : (op.toList == [110, 97, 109, 101]) = true
      · rw [if_pos h2] at hv
        split at hv
        · injection hv with hv
          subst hv
          exact (rightB_iff _ _).2 ⟨by show (0 : Int) < 1; decide, by show Int.gcd _ 1 = 1; simp⟩
        · cases hv
      · rw [if_neg h2] at hf hv
        simp only [Bool.and_eq_true, beq_iff_eq] at hf
        have hl := hf.2.2.2.2
        have hV := valueL_right vs ts hl
        generalize valueL vs ts = vl at *
        match vl, hv with
        | [a, b], hv =>
          cases a with
          | error f => cases hv
          | ok xa =>
            cases b with
            | error f => cases hv
            | ok xb => exact (applyI_right _ (hV _ List.mem_cons_self xa rfl) (hV _ (List.mem_cons_of_mem _ List.mem_cons_self) xb rfl) hv).1
        | [], hv => cases hv
        | [_], hv => cases hv
        | _ :: _ :: _ :: _, hv => cases hv
theorem valueL_right (vs : Vals) : ∀ (ts : List Ex), formedL ts = true → ∀ e ∈ valueL vs ts, ∀ x, e = .ok x → rightB x.1 x.2 = true
  | [], _, e, he, _, _ => by unfold valueL at he; cases he
  | t :: ts, hf, e, he, x, hx => by
    unfold formedL at hf
    rw [Bool.and_eq_true] at hf
    unfold valueL at he
    rcases List.mem_cons.1 he with rfl | he
    · exact valueE_right vs t x hf.1 hx
    · exact valueL_right vs ts hf.2 e he x hx
end
end Go.Proofs.Ytgkdeknfmmgbdaa
