/-
  FlowKnows, walked. Conditions: the arguments read as rows of ints and two ints.
-/
import Derived.Test.YthdhlocoiipbaaaFlF
import Derived.Test.YthdhlocoiipbaaaFlJ
namespace Go.Proofs.Ythdhlocoiipbaaa
set_option linter.unusedVariables false
set_option linter.unusedSimpArgs false
open Go.RowKit

set_option maxRecDepth 100000 in
set_option maxHeartbeats 4000000 in
theorem knows_walk (v u : Value) (f g : Nat → Nat → Int) (n m : Nat) (p0 p1 : Int) (hp0 : OkI p0) (hp1 : OkI p1) (w : World) (h : RA 3 w v f n) (h5 : RA 5 w u g m) :
    Calls Try.prog 6 #[v, u, .agg #[.int .i64 p0, .int .i64 p1]] w fun e w' => e = .returned (.bool true) ∧ Ext w w' := by
  have H0 := Lib.hid h; clear h
  have H5 := Lib.hid h5; clear h5
  have HP0 := Lib.hid hp0; have HP1 := Lib.hid hp1; clear hp0 hp1
  go_enter Try.func6, Try.ntmps6
  go_upto_region 1 with (fail)
  have hE0 : Ext w (w.alloc (.cells #[.int .i64 p0, .int .i64 p1] 43)) := Ext.alloc (Ext.refl _) _
  have hpb := World.alloc_heap_new w (.cells #[.int .i64 p0, .int .i64 p1] 43)
  generalize w.alloc (.cells #[.int .i64 p0, .int .i64 p1] 43) = w0 at *
  have HPB : Hid (∀ w', Ext w0 w' → w'.heap[w.heap.size]? = some (.cells #[.int .i64 p0, .int .i64 p1] 43)) := Lib.hid fun w' h => (h.block _ (Rg.lt_of_heap hpb)).trans hpb
  clear hpb
  generalize hpbe : w.heap.size = pb at *
  clear hpbe
  go_upto_region 3 with (first
    | (go_at_call 11; (with_reducible refine (sanity_any _).mono ?_); rintro e w1 ⟨rfl, hx1⟩)
    | (go_at_call 12; go_loud ((with_reducible refine (Made_any v f n _ ((H0.out.ext hE0).ext hx1)).mono ?_); rintro e w2 ⟨r, xs, rfl, hM, hN, hx2⟩; obtain ⟨bx, cx, rfl⟩ := (hM.ri (by omega)).1.form; have hR := Lib.hid (hM.ri (by omega)); have hxl : xs.length ≤ 20 := (by omega); clear hM hN)))
  have hw2 : Ext w0 w2 := hx1.trans hx2
  go_upto_region 4 with (go_at_call 17; (with_reducible refine (Messages_any u g m (xs.length + 1) _ ((H5.out.ext hE0).ext hw2) (by omega)).mono ?_); rintro e w3 ⟨r3, ms, rfl, hS, -, hx3⟩; obtain ⟨bm, cm, rfl⟩ := (hS.rm (by omega) (by omega)).1.form)
  have hsm := Lib.hid (hS.x (by omega)).small
  have hM3 := Lib.hid (hS.rm (by omega) (by omega))
  have hR3 := Lib.hid (hR.out.ext hx3)
  have hw3 := hw2.trans hx3
  have b3 := Lib.hid (HPB.out w3 hw3)
  have HE3 : Hid (Ext w w3) := Lib.hid (hE0.trans hw3)
  clear hS hR hx1 hx2 hx3 hE0 hw2 hw3
  go_upto_region 5 with (fail)
  go_loopw [10] (fun k wr => ∃ j : Nat, k = .int .i64 j ∧ j ≤ 6 ∧ Ext w3 wr) (fun k _ => 6 - (iof k).toNat)
  case atStart => exact ⟨0, rfl, by omega, Ext.refl _⟩
  case round =>
    obtain ⟨j, rfl, hj, hx⟩ := hrel
    have bw := (hx.block _ (Rg.lt_of_heap b3.out)).trans b3.out
    have q0 := cell_of_row wr pb 0 _ _ _ bw
    have q1 := cell_of_row wr pb 1 _ _ _ bw
    have l0 := World.block_lt_of_cell? wr _ q0
    clear bw
    by_cases hj6 : j < 6
    · go_upto_region 7 with (fail)
      have hK1 : ∀ wz, Ext wr wz → Calls Try.prog 21 #[.slice bx xs.length cx, .slice bm ms.length cm, .int .i64 j, .int .i64 p1] wz (fun e w' => ∃ r, e = .returned r ∧ Ext wz w' ∧ IRd w' r (srt (knowL xs j p1 ms))) := fun wz hw => (Knows_any xs ms j p1 _ _ wz (hR3.out.ext (hx.trans hw)) (hM3.out.ext (hx.trans hw)) hsm.out).mono fun _ _ ⟨r, a, b, c⟩ => ⟨r, a, c, b⟩
      have hK2 : ∀ wz, Ext wr wz → Calls Try.prog 22 #[.slice bx xs.length cx, .slice bm ms.length cm, .int .i64 j, .int .i64 p1] wz (fun e w' => ∃ r, e = .returned r ∧ Ext wz w' ∧ IRd w' r (srt (knowL xs j p1 ms))) := fun wz hw => (refKnows_any xs ms j p1 _ _ wz (hR3.out.ext (hx.trans hw)) (hM3.out.ext (hx.trans hw)) hsm.out).mono fun _ _ ⟨r, a, b, c⟩ => ⟨r, a, c, b⟩
      generalize hsr : srt (knowL xs j p1 ms) = sr at *
      refine Rr.wp_region [(0, .y), (1, .y), (2, .y), (3, .y), (4, .y), (6, .y), (7, .y), (8, .y), (9, .y), (10, .y), (5, .z), (11, .z)] (fun _ => (.cells #[] 29, Rg.ptr)) (by kernel_rfl) (by kernel_rfl) ?_
      (refine Rr.wr_y (by simp only [List.getElem?_toArray, List.getElem?_cons_succ, List.getElem?_cons_zero]; rfl) (by rfl) ?_
       apply Exists.intro
       refine ⟨fun wz hw _ => ?_, ?_⟩
       · have hcz := hw.cells.1
         go_simp
         (with_reducible exact Rg.up_value)
       simp only [Act.put, List.setIfInBounds_toArray, List.set_cons_zero, List.set_cons_succ])
      (refine Rr.wr_y (by simp only [List.getElem?_toArray, List.getElem?_cons_succ, List.getElem?_cons_zero]; rfl) (by rfl) ?_
       apply Exists.intro
       refine ⟨fun wz hw _ => ?_, ?_⟩
       · have hcz := hw.cells.1
         go_simp
         (with_reducible exact Rg.up_value)
       simp only [Act.put, List.setIfInBounds_toArray, List.set_cons_zero, List.set_cons_succ])
      (refine Rr.wr_y (by simp only [List.getElem?_toArray, List.getElem?_cons_succ, List.getElem?_cons_zero]; rfl) (by rfl) ?_
       apply Exists.intro
       refine ⟨fun wz hw _ => ?_, ?_⟩
       · have hcz := hw.cells.1
         go_simp
         (with_reducible exact Rg.up_value)
       simp only [Act.put, List.setIfInBounds_toArray, List.set_cons_zero, List.set_cons_succ])
      (refine Rr.wr_y (by simp only [List.getElem?_toArray, List.getElem?_cons_succ, List.getElem?_cons_zero]; rfl) (by rfl) ?_
       apply Exists.intro
       refine ⟨fun wz hw _ => ?_, ?_⟩
       · have hcz := hw.cells.1
         go_simp
         (with_reducible exact Rg.up_value)
       simp only [Act.put, List.setIfInBounds_toArray, List.set_cons_zero, List.set_cons_succ])
      (refine Rr.wr_y (by simp only [List.getElem?_toArray, List.getElem?_cons_succ, List.getElem?_cons_zero]; rfl) (by rfl) ?_
       apply Exists.intro
       refine ⟨fun wz hw _ => ?_, ?_⟩
       · have hcz := hw.cells.1
         go_simp
         (with_reducible exact Rg.up_value)
       simp only [Act.put, List.setIfInBounds_toArray, List.set_cons_zero, List.set_cons_succ])
      (refine Rr.wr_y (by simp only [List.getElem?_toArray, List.getElem?_cons_succ, List.getElem?_cons_zero]; rfl) (by rfl) ?_
       apply Exists.intro
       refine ⟨fun wz hw _ => ?_, ?_⟩
       · have hcz := hw.cells.1
         go_simp
         (with_reducible exact Rg.up_value)
       simp only [Act.put, List.setIfInBounds_toArray, List.set_cons_zero, List.set_cons_succ])
      (refine Rr.wr_y (by simp only [List.getElem?_toArray, List.getElem?_cons_succ, List.getElem?_cons_zero]; rfl) (by rfl) ?_
       apply Exists.intro
       refine ⟨fun wz hw _ => ?_, ?_⟩
       · have hcz := hw.cells.1
         go_simp
         (with_reducible exact Rg.up_value)
       simp only [Act.put, List.setIfInBounds_toArray, List.set_cons_zero, List.set_cons_succ])
      (refine Rr.wr_y (by simp only [List.getElem?_toArray, List.getElem?_cons_succ, List.getElem?_cons_zero]; rfl) (by rfl) ?_
       apply Exists.intro
       refine ⟨fun wz hw _ => ?_, ?_⟩
       · have hcz := hw.cells.1
         go_simp
         (with_reducible exact Rg.up_value)
       simp only [Act.put, List.setIfInBounds_toArray, List.set_cons_zero, List.set_cons_succ])
      (refine Rr.wr_y (by simp only [List.getElem?_toArray, List.getElem?_cons_succ, List.getElem?_cons_zero]; rfl) (by rfl) ?_
       apply Exists.intro
       refine ⟨fun wz hw _ => ?_, ?_⟩
       · have hcz := hw.cells.1
         go_simp
         (with_reducible exact Rg.up_value)
       simp only [Act.put, List.setIfInBounds_toArray, List.set_cons_zero, List.set_cons_succ])
      (refine Rr.wr_y (by simp only [List.getElem?_toArray, List.getElem?_cons_succ, List.getElem?_cons_zero]; rfl) (by rfl) ?_
       apply Exists.intro
       refine ⟨fun wz hw _ => ?_, ?_⟩
       · have hcz := hw.cells.1
         go_simp
         (with_reducible exact Rg.up_value)
       simp only [Act.put, List.setIfInBounds_toArray, List.set_cons_zero, List.set_cons_succ])
      refine Rr.wr_z (fun v w' => IRd w' v sr) (by simp only [List.getElem?_toArray, List.getElem?_cons_succ, List.getElem?_cons_zero]; rfl) (by rfl) (fun v w1 w2 h e => by first | exact Rd.ext e h | exact h.ext e) (fun wz hw hh => ?_) (fun u => ?_)
      · have hcz := hw.cells.1
        go_simp
        apply Rr.upR_enter
        (with_reducible refine (hK1 wz hw).mono ?_)
        rintro e w3 ⟨v3, rfl, hx3, hr3⟩
        exact ⟨v3, rfl, hx3, hr3⟩
      simp only [Act.put, List.setIfInBounds_toArray, List.set_cons_zero, List.set_cons_succ]
      refine Rr.wr_z (fun v w' => IRd w' v sr) (by simp only [List.getElem?_toArray, List.getElem?_cons_succ, List.getElem?_cons_zero]; rfl) (by rfl) (fun v w1 w2 h e => by first | exact Rd.ext e h | exact h.ext e) (fun wz hw hh => ?_) (fun u => ?_)
      · have hcz := hw.cells.1
        go_simp
        apply Rr.upR_enter
        (with_reducible refine (hK2 wz hw).mono ?_)
        rintro e w3 ⟨v3, rfl, hx3, hr3⟩
        exact ⟨v3, rfl, hx3, hr3⟩
      simp only [Act.put, List.setIfInBounds_toArray, List.set_cons_zero, List.set_cons_succ]
      refine Rr.wr_nil ?_
      intro wy hy hh
      have hi1 := hh _ (List.mem_cons_of_mem _ List.mem_cons_self)
      have hi2 := hh _ List.mem_cons_self
      have hI := Ints_any _ _ _ _ wy hi1 hi2
      rw [decide_eq_true rfl] at hI
      have HI := Lib.hid hI
      clear hh hi1 hi2 hI hK1 hK2 q0 q1 l0
      simp only [List.length_cons, List.length_nil, List.drop_succ_cons, List.drop_zero, Nat.reduceAdd]
      go_wp2_with (go_at_call 14; go_loud (with_reducible refine HI.out.mono ?_); rintro e wz ⟨rfl, hxz⟩)
      exact ⟨⟨j + 1, by simp, by omega, (hx.trans hy).trans hxz⟩, by simp; omega⟩
    · obtain rfl : j = 6 := by omega
      have hK1 : ∀ wz, Ext wr wz → Calls Try.prog 21 #[.slice bx xs.length cx, .slice bm ms.length cm, .int .i64 p0, .int .i64 5] wz (fun e w' => ∃ r, e = .returned r ∧ Ext wz w' ∧ IRd w' r (srt (knowL xs p0 5 ms))) := fun wz hw => (Knows_any xs ms p0 5 _ _ wz (hR3.out.ext (hx.trans hw)) (hM3.out.ext (hx.trans hw)) hsm.out).mono fun _ _ ⟨r, a, b, c⟩ => ⟨r, a, c, b⟩
      have hK2 : ∀ wz, Ext wr wz → Calls Try.prog 22 #[.slice bx xs.length cx, .slice bm ms.length cm, .int .i64 p0, .int .i64 5] wz (fun e w' => ∃ r, e = .returned r ∧ Ext wz w' ∧ IRd w' r (srt (knowL xs p0 5 ms))) := fun wz hw => (refKnows_any xs ms p0 5 _ _ wz (hR3.out.ext (hx.trans hw)) (hM3.out.ext (hx.trans hw)) hsm.out).mono fun _ _ ⟨r, a, b, c⟩ => ⟨r, a, c, b⟩
      generalize hsr : srt (knowL xs p0 5 ms) = sr at *
      go_upto_region 9 with (fail)
      refine Rr.wp_region [(0, .y), (1, .y), (2, .y), (3, .y), (4, .y), (5, .y), (7, .y), (8, .y), (9, .y), (10, .y), (6, .z), (11, .z)] (fun _ => (.cells #[] 29, Rg.ptr)) (by kernel_rfl) (by kernel_rfl) ?_
      (refine Rr.wr_y (by simp only [List.getElem?_toArray, List.getElem?_cons_succ, List.getElem?_cons_zero]; rfl) (by rfl) ?_
       apply Exists.intro
       refine ⟨fun wz hw _ => ?_, ?_⟩
       · have hcz := hw.cells.1
         go_simp
         (with_reducible exact Rg.up_value)
       simp only [Act.put, List.setIfInBounds_toArray, List.set_cons_zero, List.set_cons_succ])
      (refine Rr.wr_y (by simp only [List.getElem?_toArray, List.getElem?_cons_succ, List.getElem?_cons_zero]; rfl) (by rfl) ?_
       apply Exists.intro
       refine ⟨fun wz hw _ => ?_, ?_⟩
       · have hcz := hw.cells.1
         go_simp
         (with_reducible exact Rg.up_value)
       simp only [Act.put, List.setIfInBounds_toArray, List.set_cons_zero, List.set_cons_succ])
      (refine Rr.wr_y (by simp only [List.getElem?_toArray, List.getElem?_cons_succ, List.getElem?_cons_zero]; rfl) (by rfl) ?_
       apply Exists.intro
       refine ⟨fun wz hw _ => ?_, ?_⟩
       · have hcz := hw.cells.1
         go_simp
         (with_reducible exact Rg.up_value)
       simp only [Act.put, List.setIfInBounds_toArray, List.set_cons_zero, List.set_cons_succ])
      (refine Rr.wr_y (by simp only [List.getElem?_toArray, List.getElem?_cons_succ, List.getElem?_cons_zero]; rfl) (by rfl) ?_
       apply Exists.intro
       refine ⟨fun wz hw _ => ?_, ?_⟩
       · have hcz := hw.cells.1
         go_simp
         (with_reducible exact Rg.up_value)
       simp only [Act.put, List.setIfInBounds_toArray, List.set_cons_zero, List.set_cons_succ])
      (refine Rr.wr_y (by simp only [List.getElem?_toArray, List.getElem?_cons_succ, List.getElem?_cons_zero]; rfl) (by rfl) ?_
       apply Exists.intro
       refine ⟨fun wz hw _ => ?_, ?_⟩
       · have hcz := hw.cells.1
         go_simp
         (with_reducible exact Rg.up_value)
       simp only [Act.put, List.setIfInBounds_toArray, List.set_cons_zero, List.set_cons_succ])
      (refine Rr.wr_y (by simp only [List.getElem?_toArray, List.getElem?_cons_succ, List.getElem?_cons_zero]; rfl) (by rfl) ?_
       apply Exists.intro
       refine ⟨fun wz hw _ => ?_, ?_⟩
       · have hcz := hw.cells.1
         go_simp
         (with_reducible exact Rg.up_value)
       simp only [Act.put, List.setIfInBounds_toArray, List.set_cons_zero, List.set_cons_succ])
      (refine Rr.wr_y (by simp only [List.getElem?_toArray, List.getElem?_cons_succ, List.getElem?_cons_zero]; rfl) (by rfl) ?_
       apply Exists.intro
       refine ⟨fun wz hw _ => ?_, ?_⟩
       · have hcz := hw.cells.1
         go_simp
         (with_reducible exact Rg.up_value)
       simp only [Act.put, List.setIfInBounds_toArray, List.set_cons_zero, List.set_cons_succ])
      (refine Rr.wr_y (by simp only [List.getElem?_toArray, List.getElem?_cons_succ, List.getElem?_cons_zero]; rfl) (by rfl) ?_
       apply Exists.intro
       refine ⟨fun wz hw _ => ?_, ?_⟩
       · have hcz := hw.cells.1
         go_simp
         (with_reducible exact Rg.up_value)
       simp only [Act.put, List.setIfInBounds_toArray, List.set_cons_zero, List.set_cons_succ])
      (refine Rr.wr_y (by simp only [List.getElem?_toArray, List.getElem?_cons_succ, List.getElem?_cons_zero]; rfl) (by rfl) ?_
       apply Exists.intro
       refine ⟨fun wz hw _ => ?_, ?_⟩
       · have hcz := hw.cells.1
         go_simp
         (with_reducible exact Rg.up_value)
       simp only [Act.put, List.setIfInBounds_toArray, List.set_cons_zero, List.set_cons_succ])
      (refine Rr.wr_y (by simp only [List.getElem?_toArray, List.getElem?_cons_succ, List.getElem?_cons_zero]; rfl) (by rfl) ?_
       apply Exists.intro
       refine ⟨fun wz hw _ => ?_, ?_⟩
       · have hcz := hw.cells.1
         go_simp
         (with_reducible exact Rg.up_value)
       simp only [Act.put, List.setIfInBounds_toArray, List.set_cons_zero, List.set_cons_succ])
      refine Rr.wr_z (fun v w' => IRd w' v sr) (by simp only [List.getElem?_toArray, List.getElem?_cons_succ, List.getElem?_cons_zero]; rfl) (by rfl) (fun v w1 w2 h e => by first | exact Rd.ext e h | exact h.ext e) (fun wz hw hh => ?_) (fun u => ?_)
      · have hcz := hw.cells.1
        go_simp
        apply Rr.upR_enter
        (with_reducible refine (hK1 wz hw).mono ?_)
        rintro e w3 ⟨v3, rfl, hx3, hr3⟩
        exact ⟨v3, rfl, hx3, hr3⟩
      simp only [Act.put, List.setIfInBounds_toArray, List.set_cons_zero, List.set_cons_succ]
      refine Rr.wr_z (fun v w' => IRd w' v sr) (by simp only [List.getElem?_toArray, List.getElem?_cons_succ, List.getElem?_cons_zero]; rfl) (by rfl) (fun v w1 w2 h e => by first | exact Rd.ext e h | exact h.ext e) (fun wz hw hh => ?_) (fun u => ?_)
      · have hcz := hw.cells.1
        go_simp
        apply Rr.upR_enter
        (with_reducible refine (hK2 wz hw).mono ?_)
        rintro e w3 ⟨v3, rfl, hx3, hr3⟩
        exact ⟨v3, rfl, hx3, hr3⟩
      simp only [Act.put, List.setIfInBounds_toArray, List.set_cons_zero, List.set_cons_succ]
      refine Rr.wr_nil ?_
      intro wy hy hh
      have hi1 := hh _ (List.mem_cons_of_mem _ List.mem_cons_self)
      have hi2 := hh _ List.mem_cons_self
      have hI := Ints_any _ _ _ _ wy hi1 hi2
      rw [decide_eq_true rfl] at hI
      have HI := Lib.hid hI
      clear hh hi1 hi2 hI hK1 hK2 q0 q1 l0
      simp only [List.length_cons, List.length_nil, List.drop_succ_cons, List.drop_zero, Nat.reduceAdd]
      go_wp2_with (go_at_call 14; go_loud (with_reducible refine HI.out.mono ?_); rintro e wz ⟨rfl, hxz⟩)
      go_ret
      exact ⟨rfl, HE3.out.trans ((hx.trans hy).trans hxz)⟩

end Go.Proofs.Ythdhlocoiipbaaa
