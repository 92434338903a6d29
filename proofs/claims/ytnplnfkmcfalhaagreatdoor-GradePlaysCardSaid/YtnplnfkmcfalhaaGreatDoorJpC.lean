/-
  The reference's Give. Conditions: what the book holds; the parts are ints and strings of the machine.
  The reference's Final. Conditions: what the book holds.
  Rows of ints cut, and put together. Nothing is asked.
  The reference's Value. Conditions: what the book holds; a final bidder has a grade about each place.
-/
import Derived.Test.YtnplnfkmcfalhaaGreatDoorJpB
import Derived.Test.YtnplnfkmcfalhaaGreatDoorGoC
import Derived.ArgAppend
import Derived.Deep.Upon
namespace Go.Proofs.YtnplnfkmcfalhaaGreatDoor
set_option linter.unusedVariables false
set_option linter.unusedSimpArgs false
open Go.RowKit

theorem rcells {w : World} {p : Nat} {vl vc vd v3 v4 v5 : Value} (h : w.heap[p]? = some (.cells #[vl, vc, vd, v3, v4, v5] 80)) : w.cell? ⟨p, 0, none⟩ = some vl ∧ w.cell? ⟨p, 1, none⟩ = some vc ∧ w.cell? ⟨p, 2, none⟩ = some vd ∧ w.cell? ⟨p, 3, none⟩ = some v3 ∧ w.cell? ⟨p, 4, none⟩ = some v4 ∧ w.cell? ⟨p, 5, none⟩ = some v5 ∧ p < w.heap.size ∧ ∀ i, w.frozen? ⟨p, i, none⟩ = false := by
  obtain ⟨hc, hf, hl⟩ := Rg.cells_of h
  exact ⟨hc 0, hc 1, hc 2, hc 3, hc 4, hc 5, hl, hf⟩
theorem gcells {w : World} {p : Nat} {a b c d e f : Value} (h : w.heap[p]? = some (.cells #[a, b, c, d, e, f] 23)) : w.cell? ⟨p, 0, none⟩ = some a ∧ w.cell? ⟨p, 1, none⟩ = some b ∧ w.cell? ⟨p, 2, none⟩ = some c ∧ w.cell? ⟨p, 3, none⟩ = some d ∧ w.cell? ⟨p, 4, none⟩ = some e ∧ w.cell? ⟨p, 5, none⟩ = some f ∧ p < w.heap.size := by
  obtain ⟨hc, hf, hl⟩ := Rg.cells_of h
  exact ⟨hc 0, hc 1, hc 2, hc 3, hc 4, hc 5, hl⟩
theorem refE_none {L : List Int} {C : List Cr} {D : List Dy} {N : List Int} {g : Gd} (h : critOf C g.name = none) : refE L C D N g = 34 := by unfold refE; rw [h]
theorem refE_some {L : List Int} {C : List Cr} {D : List Dy} {N : List Int} {g : Gd} {c : Cr} (h : critOf C g.name = some c) : refE L C D N g = (open Classical in if g.lot ∉ L then 34 else if (⟨g.ass, g.bid⟩ : Dy) ∉ D then 35 else if g.n < c.low ∨ c.high < g.n then 16 else if g.bid ∈ N then 31 else 0) := by unfold refE; rw [h]
theorem refE_lot {L : List Int} {C : List Cr} {D : List Dy} {N : List Int} {g : Gd} (h : g.lot ∉ L) : refE L C D N g = 34 := by
  cases hc : critOf C g.name with
  | none => exact refE_none hc
  | some c => rw [refE_some hc, if_pos h]
theorem refB_ne {L : List Int} {C : List Cr} {D : List Dy} {G : List Gd} {N : List Int} {O : List Gd} {g : Gd} (h : refE L C D N g ≠ 0) : refB L C D G N O g = (G, O) := if_neg h

set_option maxRecDepth 100000 in
set_option maxHeartbeats 4000000 in
theorem refGive_any (F : List Nat) (p : Nat) (vl vc vd : Value) (L : List Int) (C : List Cr) (D : List Dy) (G : List Gd) (N : List Int) (O : List Gd) (g : Gd) (hg : g.ok) (w : World) (h : RWF F w p vl vc vd L C D G N O)
    (hL : L.length ≤ 1000) (hC : C.length ≤ 1000) (hD : D.length ≤ 1000) (hG : G.length < 10000) (hN : N.length ≤ 10000) (hO : O.length < 10000) (hLo : ∀ x ∈ L, OkI x) (hNo : ∀ x ∈ N, OkI x) :
    Calls Tryz.prog 21 #[.pointer (some ⟨p, 0, none⟩), g.v] w fun e w' => e = .returned (.int .i64 (refE L C D N g)) ∧ RP F w p vl vc vd L C D (refB L C D G N O g).1 N (refB L C D G N O g).2 w' := by
  have HW := Lib.hid h
  obtain ⟨vg, vn, vo, hR, hF⟩ := h
  have HL := Lib.hid (ird_own hR.rl hLo (by omega))
  have HN := Lib.hid (ird_own hR.rn hNo (by omega))
  have HC := Lib.hid (SR.of_row (cs := Cr.cs) (fun _ => rfl) hR.rc (by omega))
  have HD := Lib.hid (SR.of_row (cs := Dy.cs) (fun _ => rfl) hR.rd (by omega))
  have HR := Lib.hid hR; have HF := Lib.hid hF
  have HP : Hid (∀ W, Ext w W → W.heap[p]? = some (.cells #[vl, vc, vd, vg, vn, vo] 80)) := Lib.hid fun W hW => (hW.block _ (Rg.lt_of_heap hR.at0)).trans hR.at0
  have HG := Lib.hid hg
  clear hR hF hg hLo hNo
  obtain ⟨ga, gb, gl, gn, gN, gt⟩ := g
  simp only [Gd.v]
  go_enter Tryz.func21, Tryz.ntmps21
  go_upto_region 1 with (fail)
  have hxa : Ext w (w.alloc (.cells #[.int .i64 ga, .int .i64 gb, .int .i64 gl, .string gn, .int .i64 gN, .int .i64 gt] 23)) := Ext.alloc (Ext.refl _) _
  have hpg := heap_alloc_new w (.cells #[.int .i64 ga, .int .i64 gb, .int .i64 gl, .string gn, .int .i64 gN, .int .i64 gt] 23)
  generalize w.alloc (.cells #[.int .i64 ga, .int .i64 gb, .int .i64 gl, .string gn, .int .i64 gN, .int .i64 gt] 23) = w1 at *
  have HPGE : Hid (∀ W, Ext w1 W → W.heap[w.heap.size]? = some (.cells #[.int .i64 ga, .int .i64 gb, .int .i64 gl, .string gn, .int .i64 gN, .int .i64 gt] 23)) := Lib.hid fun W hW => (hW.block _ (Rg.lt_of_heap hpg)).trans hpg
  obtain ⟨pg, hpgE⟩ : ∃ pg, pg = w.heap.size := ⟨_, rfl⟩
  rw [← hpgE] at HPGE hpg ⊢
  have HPS := Lib.hid hpgE; have HX1 := Lib.hid hxa
  clear hpgE hpg hxa
  obtain ⟨u0, -, -, -, -, -, ul, -⟩ := rcells (HP.out w1 HX1.out)
  obtain ⟨-, -, g2, -, -, -, gl0⟩ := gcells (HPGE.out w1 (Ext.refl _))
  refine Rr.wp_region ((List.range 7).map (fun i => (i, .y))) (fun _ => (.cells #[] 29, Rg.ptr)) (by kernel_rfl) (by kernel_rfl) ?_
  simp only [List.range, List.range.loop, List.map_cons, List.map_nil]
  (refine Rr.wr_y (by simp only [List.getElem?_toArray, List.getElem?_cons_succ, List.getElem?_cons_zero]; rfl) (by rfl) ?_
   apply Exists.intro
   refine ⟨fun wz hw _ => ?_, ?_⟩
   · have hcz := hw.cells.1
     go_simp
     (with_reducible exact Rg.up_value)
   simp only [Act.put, List.setIfInBounds_toArray, List.set_cons_zero, List.set_cons_succ])
  (refine Rr.wr_y (by simp only [List.getElem?_toArray, List.getElem?_cons_succ, List.getElem?_cons_zero]; rfl) (by rfl) ?_
   apply Exists.intro
   refine ⟨fun wz hw _ => ?_, ?_⟩
   · have hcz := hw.cells.1
     go_simp
     (with_reducible exact Rg.up_value)
   simp only [Act.put, List.setIfInBounds_toArray, List.set_cons_zero, List.set_cons_succ])
  (refine Rr.wr_y (by simp only [List.getElem?_toArray, List.getElem?_cons_succ, List.getElem?_cons_zero]; rfl) (by rfl) ?_
   apply Exists.intro
   refine ⟨fun wz hw _ => ?_, ?_⟩
   · have hcz := hw.cells.1
     go_simp
     (with_reducible exact Rg.up_value)
   simp only [Act.put, List.setIfInBounds_toArray, List.set_cons_zero, List.set_cons_succ])
  (refine Rr.wr_y (by simp only [List.getElem?_toArray, List.getElem?_cons_succ, List.getElem?_cons_zero]; rfl) (by rfl) ?_
   apply Exists.intro
   refine ⟨fun wz hw _ => ?_, ?_⟩
   · have hcz := hw.cells.1
     go_simp
     (with_reducible exact Rg.up_value)
   simp only [Act.put, List.setIfInBounds_toArray, List.set_cons_zero, List.set_cons_succ])
  (refine Rr.wr_y (by simp only [List.getElem?_toArray, List.getElem?_cons_succ, List.getElem?_cons_zero]; rfl) (by rfl) ?_
   apply Exists.intro
   refine ⟨fun wz hw _ => ?_, ?_⟩
   · have hcz := hw.cells.1
     go_simp
     (with_reducible exact Rg.up_value)
   simp only [Act.put, List.setIfInBounds_toArray, List.set_cons_zero, List.set_cons_succ])
  (refine Rr.wr_y (by simp only [List.getElem?_toArray, List.getElem?_cons_succ, List.getElem?_cons_zero]; rfl) (by rfl) ?_
   apply Exists.intro
   refine ⟨fun wz hw _ => ?_, ?_⟩
   · have hcz := hw.cells.1
     go_simp
     (with_reducible exact Rg.up_value)
   simp only [Act.put, List.setIfInBounds_toArray, List.set_cons_zero, List.set_cons_succ])
  (refine Rr.wr_y (by simp only [List.getElem?_toArray, List.getElem?_cons_succ, List.getElem?_cons_zero]; rfl) (by rfl) ?_
   apply Exists.intro
   refine ⟨fun wz hw _ => ?_, ?_⟩
   · have hcz := hw.cells.1
     go_simp
     apply Rg.up_enter
     (with_reducible refine (contains_any _ _ gl wz (HL.out.ext (HX1.out.trans hw))).mono ?_)
     rintro e w3 ⟨rfl, hb3⟩
     exact ⟨rfl, hb3⟩
   simp only [Act.put, List.setIfInBounds_toArray, List.set_cons_zero, List.set_cons_succ])
  refine Rr.wr_nil ?_
  intro wy hy hh
  simp only [List.length_cons, List.length_nil, List.drop_succ_cons, List.drop_zero, Nat.reduceAdd]
  clear hh
  have HY1 := Lib.hid hy
  have HX2 := Lib.hid (HX1.out.trans hy)
  clear u0 ul g2 gl0 hy
  have HCR := fun (wz : World) (hw : Ext w wz) => criterion_any p _ _ _ _ _ _ C gn wz (HP.out wz hw) (HC.out.ext hw)
  obtain ⟨c, kn, hcv, hkn, hck⟩ : ∃ (c : Cr) (kn : Bool), (critOf C gn).getD zeroCr = c ∧ (critOf C gn).isSome = kn ∧ ((kn = false ∧ critOf C gn = none) ∨ (kn = true ∧ critOf C gn = some c)) := by
    cases hc : critOf C gn with
    | none => exact ⟨_, false, rfl, rfl, .inl ⟨rfl, rfl⟩⟩
    | some c => exact ⟨c, true, rfl, rfl, .inr ⟨rfl, rfl⟩⟩
  rw [hcv, hkn] at HCR
  have HCK := Lib.hid hck
  have HCRI := Lib.hid (HCR wy HX2.out)
  clear hcv hkn hck HCR
  obtain ⟨cn, ck, cl, ch, cb⟩ := c
  unfold Cr.v at HCRI
  simp only at HCRI
  obtain ⟨-, -, -, g3, -, -, gl0⟩ := gcells (HPGE.out wy HY1.out)
  go_upto_region 3 with (go_at_call 40; (with_reducible refine HCRI.out.mono ?_); rintro e w5 ⟨rfl, hx5⟩)
  have HX5 := Lib.hid (HX2.out.trans hx5)
  have HY5 := Lib.hid (HY1.out.trans hx5)
  clear hx5 g3 gl0 HCRI
  have hxc : Ext w5 (w5.alloc (.cells #[.string cn, .int .i64 ck, .int .i64 cl, .int .i64 ch, .bool cb] 73)) := Ext.alloc (Ext.refl _) _
  have hpc := heap_alloc_new w5 (.cells #[.string cn, .int .i64 ck, .int .i64 cl, .int .i64 ch, .bool cb] 73)
  generalize w5.alloc (.cells #[.string cn, .int .i64 ck, .int .i64 cl, .int .i64 ch, .bool cb] 73) = W6 at *
  have HPC : Hid (∀ W, Ext W6 W → W.heap[w5.heap.size]? = some (.cells #[.string cn, .int .i64 ck, .int .i64 cl, .int .i64 ch, .bool cb] 73)) := Lib.hid fun W hW => (hW.block _ (Rg.lt_of_heap hpc)).trans hpc
  obtain ⟨pc, hpcE⟩ : ∃ pc, pc = w5.heap.size := ⟨_, rfl⟩
  rw [← hpcE] at HPC hpc ⊢
  have HX6 := Lib.hid (HX5.out.trans hxc); have HY6 := Lib.hid (HY5.out.trans hxc)
  clear hpc hpcE hxc
  by_cases hl : gl ∈ L
  · have HLL := Lib.hid hl
    rw [decide_eq_true hl]
    clear hl
    cases kn
    · have HNO : Hid (critOf C gn = none) := Lib.hid (by rcases HCK.out with ⟨-, h⟩ | ⟨h, -⟩; exact h; cases h)
      clear HCK
      go_wp2_with (fail)
      have hr : refE L C D N ⟨ga, gb, gl, gn, gN, gt⟩ = 34 := by (exact refE_none HNO.out)
      rw [hr, refB_ne (by rw [hr]; decide)]
      go_ret
      exact ⟨rfl, RP.same HW.out HX6.out⟩
    · have HRE : Hid (refE L C D N ⟨ga, gb, gl, gn, gN, gt⟩ = _) := Lib.hid (refE_some (g := ⟨ga, gb, gl, gn, gN, gt⟩) (c := ⟨cn, ck, cl, ch, cb⟩) (by rcases HCK.out with ⟨h, -⟩ | ⟨-, h⟩; cases h; exact h))
      clear HCK
      obtain ⟨g0, g1, -, -, -, -, gl0⟩ := gcells (HPGE.out W6 HY6.out)
      have HDU := Lib.hid (duty_any p _ _ _ _ _ _ D ⟨ga, gb⟩ W6 (HP.out W6 HX6.out) (HD.out.ext HX6.out))
      simp only [encD] at HDU
      by_cases hd : (⟨ga, gb⟩ : Dy) ∈ D
      · have HDD := Lib.hid hd
        rw [decide_eq_true hd] at HDU
        clear hd
        go_upto_region 8 with (go_at_call 41; (with_reducible refine HDU.out.mono ?_); rintro e w7 ⟨rfl, hx7⟩)
        have HX7 := Lib.hid (HX6.out.trans hx7); have HY7 := Lib.hid (HY6.out.trans hx7); have HZ7 := Lib.hid hx7
        clear hx7 g0 g1 gl0 HDU
        obtain ⟨-, g1, -, -, g4, -, gl0⟩ := gcells (HPGE.out w7 HY7.out)
        have k2 := cell_of_row w7 pc 2 _ _ _ (HPC.out w7 HZ7.out)
        have k3 := cell_of_row w7 pc 3 _ _ _ (HPC.out w7 HZ7.out)
        have kl := Rg.lt_of_heap (HPC.out w7 HZ7.out)
        by_cases hlo : gN < cl
        · have HLO := Lib.hid hlo
          go_wp2_with (fail)
          have hr : refE L C D N ⟨ga, gb, gl, gn, gN, gt⟩ = 16 := by (rw [HRE.out, if_neg (fun e => e HLL.out), if_neg (fun e => e HDD.out), if_pos (.inl HLO.out)])
          rw [hr, refB_ne (by rw [hr]; decide)]
          go_ret
          exact ⟨rfl, RP.same HW.out HX7.out⟩
        · by_cases hhi : ch < gN
          · have HHI := Lib.hid hhi
            go_wp2_with (fail)
            have hr : refE L C D N ⟨ga, gb, gl, gn, gN, gt⟩ = 16 := by (rw [HRE.out, if_neg (fun e => e HLL.out), if_neg (fun e => e HDD.out), if_pos (.inr HHI.out)])
            rw [hr, refB_ne (by rw [hr]; decide)]
            go_ret
            exact ⟨rfl, RP.same HW.out HX7.out⟩
          · have HNO : Hid (¬ (gN < cl ∨ ch < gN)) := Lib.hid (by rintro (h | h); exact hlo h; exact hhi h)
            go_upto_region 10 with (fail)
            clear k2 k3 kl hlo hhi g4
            obtain ⟨-, -, -, -, u4, -, ul, -⟩ := rcells (HP.out w7 HX7.out)
            refine Rr.wp_region ((List.range 7).map (fun i => (i, .y))) (fun _ => (.cells #[] 29, Rg.ptr)) (by kernel_rfl) (by kernel_rfl) ?_
            simp only [List.range, List.range.loop, List.map_cons, List.map_nil]
            (refine Rr.wr_y (by simp only [List.getElem?_toArray, List.getElem?_cons_succ, List.getElem?_cons_zero]; rfl) (by rfl) ?_
             apply Exists.intro
             refine ⟨fun wz hw _ => ?_, ?_⟩
             · have hcz := hw.cells.1
               go_simp
               (with_reducible exact Rg.up_value)
             simp only [Act.put, List.setIfInBounds_toArray, List.set_cons_zero, List.set_cons_succ])
            (refine Rr.wr_y (by simp only [List.getElem?_toArray, List.getElem?_cons_succ, List.getElem?_cons_zero]; rfl) (by rfl) ?_
             apply Exists.intro
             refine ⟨fun wz hw _ => ?_, ?_⟩
             · have hcz := hw.cells.1
               go_simp
               (with_reducible exact Rg.up_value)
             simp only [Act.put, List.setIfInBounds_toArray, List.set_cons_zero, List.set_cons_succ])
            (refine Rr.wr_y (by simp only [List.getElem?_toArray, List.getElem?_cons_succ, List.getElem?_cons_zero]; rfl) (by rfl) ?_
             apply Exists.intro
             refine ⟨fun wz hw _ => ?_, ?_⟩
             · have hcz := hw.cells.1
               go_simp
               (with_reducible exact Rg.up_value)
             simp only [Act.put, List.setIfInBounds_toArray, List.set_cons_zero, List.set_cons_succ])
            (refine Rr.wr_y (by simp only [List.getElem?_toArray, List.getElem?_cons_succ, List.getElem?_cons_zero]; rfl) (by rfl) ?_
             apply Exists.intro
             refine ⟨fun wz hw _ => ?_, ?_⟩
             · have hcz := hw.cells.1
               go_simp
               (with_reducible exact Rg.up_value)
             simp only [Act.put, List.setIfInBounds_toArray, List.set_cons_zero, List.set_cons_succ])
            (refine Rr.wr_y (by simp only [List.getElem?_toArray, List.getElem?_cons_succ, List.getElem?_cons_zero]; rfl) (by rfl) ?_
             apply Exists.intro
             refine ⟨fun wz hw _ => ?_, ?_⟩
             · have hcz := hw.cells.1
               go_simp
               (with_reducible exact Rg.up_value)
             simp only [Act.put, List.setIfInBounds_toArray, List.set_cons_zero, List.set_cons_succ])
            (refine Rr.wr_y (by simp only [List.getElem?_toArray, List.getElem?_cons_succ, List.getElem?_cons_zero]; rfl) (by rfl) ?_
             apply Exists.intro
             refine ⟨fun wz hw _ => ?_, ?_⟩
             · have hcz := hw.cells.1
               go_simp
               (with_reducible exact Rg.up_value)
             simp only [Act.put, List.setIfInBounds_toArray, List.set_cons_zero, List.set_cons_succ])
            (refine Rr.wr_y (by simp only [List.getElem?_toArray, List.getElem?_cons_succ, List.getElem?_cons_zero]; rfl) (by rfl) ?_
             apply Exists.intro
             refine ⟨fun wz hw _ => ?_, ?_⟩
             · have hcz := hw.cells.1
               go_simp
               apply Rg.up_enter
               (with_reducible refine (contains_any _ _ gb wz (HN.out.ext (HX7.out.trans hw))).mono ?_)
               rintro e w3 ⟨rfl, hb3⟩
               exact ⟨rfl, hb3⟩
             simp only [Act.put, List.setIfInBounds_toArray, List.set_cons_zero, List.set_cons_succ])
            refine Rr.wr_nil ?_
            intro wy hy hh
            simp only [List.length_cons, List.length_nil, List.drop_succ_cons, List.drop_zero, Nat.reduceAdd]
            clear hh
            have HX8 := Lib.hid (HX7.out.trans hy); have HY8 := Lib.hid (HY7.out.trans hy)
            clear u4 ul g1 gl0 hy
            by_cases hf : gb ∈ N
            · have HF1 := Lib.hid hf
              rw [decide_eq_true hf]
              clear hf
              go_wp2_with (fail)
              have hr : refE L C D N ⟨ga, gb, gl, gn, gN, gt⟩ = 31 := by (rw [HRE.out, if_neg (fun e => e HLL.out), if_neg (fun e => e HDD.out), if_neg HNO.out, if_pos HF1.out])
              rw [hr, refB_ne (by rw [hr]; decide)]
              go_ret
              exact ⟨rfl, RP.same HW.out HX8.out⟩
            · have HRR : Hid (refE L C D N ⟨ga, gb, gl, gn, gN, gt⟩ = 0) := Lib.hid (by rw [HRE.out, if_neg (fun e => e HLL.out), if_neg (fun e => e HDD.out), if_neg HNO.out, if_neg hf])
              rw [decide_eq_false hf]
              clear hf HRE HNO
              have HFD := Lib.hid (find_any 0 p L C D G N O ⟨ga, gb, gl, gn, gN, gt⟩ wy (HR.out.rw.ext HX8.out) (by omega))
              simp only [Gd.v, Gd.pl] at HFD
              obtain ⟨z, hz⟩ : ∃ z, z = findP G ⟨gb, gl, gn, ga⟩ := ⟨_, rfl⟩
              rw [← hz] at HFD
              have HZ := Lib.hid hz
              clear hz
              have hpg := HPGE.out wy HY8.out
              obtain ⟨g0, g1, g2, g3, g4, g5, gl0⟩ := gcells hpg
              go_upto_region 14 with (go_at_call 42; (with_reducible refine HFD.out.mono ?_); rintro e w9 ⟨rfl, hx9⟩)
              have HX9 := Lib.hid (HX8.out.trans hx9); have HY9 := Lib.hid (HY8.out.trans hx9)
              clear hx9 hpg g0 g1 g2 g3 g4 g5 gl0 HFD HX8 HY8 HX7 HY7 HZ7 HX6 HY6 HX5 HY5 HX2 HY1
              have hpg := HPGE.out w9 HY9.out
              by_cases hz : z < 0
              · have HNEW := Lib.hid (refG_new (O := O) (g := ⟨ga, gb, gl, gn, gN, gt⟩) (show findP G (⟨gb, gl, gn, ga⟩ : Pl) = -1 by rcases findP_cases G (⟨gb, gl, gn, ga⟩ : Pl) with h | ⟨i, h⟩; exact h; have := HZ.out; omega))
                go_upto_region 15 with (fail)
                obtain ⟨-, -, -, u3, -, -, ul, -⟩ := rcells (HP.out w9 HX9.out)
                refine Rp.wp_regionTE [0] [(0, .y), (1, .y), (2, .y), (3, .y), (4, .y), (5, .y), (6, .m)] [7, 8, 9, 10] (fun _ => (.cells #[.int .i64 ga, .int .i64 gb, .int .i64 gl, .string gn, .int .i64 gN, .int .i64 gt] 23, fun p => .slice (some ⟨p, 0, none⟩) 1 1)) (fun c a d v w h => by have h' : _ ∧ _ := h; exact ⟨(Rr.put_defers a d v).symm.trans h'.1, h'.2⟩) (by kernel_rfl) (by kernel_rfl) ?_
                (refine Rr.wr_y (by simp only [List.getElem?_toArray, List.getElem?_cons_succ, List.getElem?_cons_zero]; rfl) (by rfl) ?_
                 apply Exists.intro
                 refine ⟨fun wz hw _ => ?_, ?_⟩
                 · have hcz := hw.cells.1
                   go_simp
                   (with_reducible exact Rg.up_value)
                 simp only [Act.put, List.setIfInBounds_toArray, List.set_cons_zero, List.set_cons_succ])
                (refine Rr.wr_y (by simp only [List.getElem?_toArray, List.getElem?_cons_succ, List.getElem?_cons_zero]; rfl) (by rfl) ?_
                 apply Exists.intro
                 refine ⟨fun wz hw _ => ?_, ?_⟩
                 · have hcz := hw.cells.1
                   go_simp
                   (with_reducible exact Rg.up_value)
                 simp only [Act.put, List.setIfInBounds_toArray, List.set_cons_zero, List.set_cons_succ])
                (refine Rr.wr_y (by simp only [List.getElem?_toArray, List.getElem?_cons_succ, List.getElem?_cons_zero]; rfl) (by rfl) ?_
                 apply Exists.intro
                 refine ⟨fun wz hw _ => ?_, ?_⟩
                 · have hcz := hw.cells.1
                   go_simp
                   (with_reducible exact Rg.up_value)
                 simp only [Act.put, List.setIfInBounds_toArray, List.set_cons_zero, List.set_cons_succ])
                (refine Rr.wr_y (by simp only [List.getElem?_toArray, List.getElem?_cons_succ, List.getElem?_cons_zero]; rfl) (by rfl) ?_
                 apply Exists.intro
                 refine ⟨fun wz hw _ => ?_, ?_⟩
                 · have hcz := hw.cells.1
                   go_simp
                   (with_reducible exact Rg.up_value)
                 simp only [Act.put, List.setIfInBounds_toArray, List.set_cons_zero, List.set_cons_succ])
                (refine Rr.wr_y (by simp only [List.getElem?_toArray, List.getElem?_cons_succ, List.getElem?_cons_zero]; rfl) (by rfl) ?_
                 apply Exists.intro
                 refine ⟨fun wz hw _ => ?_, ?_⟩
                 · have hcz := hw.cells.1
                   go_simp
                   (with_reducible exact Rg.up_value)
                 simp only [Act.put, List.setIfInBounds_toArray, List.set_cons_zero, List.set_cons_succ])
                (refine Rr.wr_y (by simp only [List.getElem?_toArray, List.getElem?_cons_succ, List.getElem?_cons_zero]; rfl) (by rfl) ?_
                 apply Exists.intro
                 refine ⟨fun wz hw _ => ?_, ?_⟩
                 · have hcz := hw.cells.1
                   exact up_row (by rfl) ((hw.block _ (Rg.lt_of_heap hpg)).trans hpg) Tryz.underlying23 (by kernel_rfl)
                 simp only [Act.put, List.setIfInBounds_toArray, List.set_cons_zero, List.set_cons_succ])
                refine Rr.wr_m (by simp only [List.getElem?_toArray, List.getElem?_cons_succ, List.getElem?_cons_zero]; rfl) (by rfl) (fun wz => by go_simp) (fun pn hpn => ?_)
                simp only [Act.put, List.setIfInBounds_toArray, List.set_cons_zero, List.set_cons_succ]
                refine Rr.wr_nil ?_
                intro wy7 hy7 hh7
                obtain ⟨-, hb2⟩ := hh7 _ List.mem_cons_self
                simp only [List.filterMap_cons, List.filterMap_nil, List.getElem?_cons_succ, List.getElem?_cons_zero]
                have HB2 := Lib.hid hb2; have HE7 := Lib.hid (HX9.out.trans hy7)
                clear hh7 hb2 hy7 u3 ul hpg
                refine append_g (cs := Gd.cs) (z := .agg #[.int .i64 0, .int .i64 0, .int .i64 0, .string ⟨#[]⟩, .int .i64 0, .int .i64 0]) 32 23 56 Tryz.underlying32 (by kernel_rfl) (by rfl) (by decide) (by decide) rfl (.tmp 69) (.tmp 71) rfl 0 vg G (by rfl) (row_ext HR.out.rg HE7.out) pn ⟨ga, gb, gl, gn, gN, gt⟩ ⟨rfl, by simp [Gd.cs, Value.oneCell']⟩ (by rfl) HB2.out (by omega) (Nat.zero_le _) ?_
                intro g1 cap1 wA hrA hgA hatA
                have hpA : wA.heap[p]? = some (.cells #[vl, vc, vd, vg, vn, vo] 80) := (hgA.block p (by have := Rg.lt_of_heap HR.out.at0; have := HE7.out.size; omega) (fun e => HR.out.np HR.out.rg (by decide) e.symm rfl)).trans (HP.out _ HE7.out)
                have HRA := Lib.hid hrA; have HGA := Lib.hid hgA; have HAT := Lib.hid hatA; have HPA := Lib.hid hpA
                obtain ⟨-, -, -, v3, -, -, vll, vf⟩ := rcells hpA
                have vf3 := vf 3
                clear hrA hgA hatA vf hpA
                go_wp2_with (fail)
                go_ret
                rw [HRR.out, show refB L C D G N O ⟨ga, gb, gl, gn, gN, gt⟩ = (G ++ [⟨ga, gb, gl, gn, gN, gt⟩], O) from (if_pos HRR.out).trans HNEW.out.2]
                exact ⟨rfl, RP.app HR.out HF.out HE7.out HR.out.rg HRA.out (by decide) rfl HGA.out HAT.out (heap_setCell_same wA p 3 _ _ _ HPA.out) (.inl ⟨rfl, rfl, rfl, rfl, rfl, rfl, rfl, rfl, by simp, rfl⟩)⟩
              · obtain ⟨i, hi⟩ : ∃ i : Nat, z = (i : Int) := ⟨z.toNat, by omega⟩
                subst hi
                obtain ⟨hil, hpl, hrg⟩ := refG_at (O := O) (g := ⟨ga, gb, gl, gn, gN, gt⟩) (i := i) HZ.out.symm
                have HRG := Lib.hid hrg
                have HSR := Lib.hid (SR.of_row (cs := Gd.cs) gd_len HR.out.rg (by omega))
                obtain ⟨A, gc, rfl⟩ := HSR.out.form
                obtain ⟨qb, rfl, hcell⟩ := row_at (HSR.out.ext HX9.out) i hil
                have c0 := hcell 0 _ rfl
                have c1 := hcell 1 _ rfl
                have c2 := hcell 2 _ rfl
                have c3 := hcell 3 _ rfl
                have c4 := hcell 4 _ rfl
                have c5 := hcell 5 _ rfl
                clear hcell hrg hpl
                obtain ⟨x, hxg⟩ : ∃ x, x = G[i] := ⟨_, rfl⟩
                rw [← hxg] at c0 c1 c2 c3 c4 c5 HRG
                clear hxg
                obtain ⟨x0, x1, x2, x3, x4, x5⟩ := x
                simp only [Nat.add_zero] at c0 c1 c2 c3 c4 c5
                have cl0 := World.block_lt_of_cell? w9 _ c0
                obtain ⟨-, -, -, u3, -, -, ul, -⟩ := rcells (HP.out w9 HX9.out)
                obtain ⟨-, -, -, -, g4, -, gl0⟩ := gcells hpg
                go_upto_region 17 with (fail)
                refine Rr.wp_region ((List.range 10).map (fun i => (i, .y))) (fun _ => (.cells #[] 29, Rg.ptr)) (by kernel_rfl) (by kernel_rfl) ?_
                simp only [List.range, List.range.loop, List.map_cons, List.map_nil]
                (refine Rr.wr_y (by simp only [List.getElem?_toArray, List.getElem?_cons_succ, List.getElem?_cons_zero]; rfl) (by rfl) ?_
                 apply Exists.intro
                 refine ⟨fun wz hw _ => ?_, ?_⟩
                 · have hcz := hw.cells.1
                   go_simp
                   (with_reducible exact Rg.up_value)
                 simp only [Act.put, List.setIfInBounds_toArray, List.set_cons_zero, List.set_cons_succ])
                (refine Rr.wr_y (by simp only [List.getElem?_toArray, List.getElem?_cons_succ, List.getElem?_cons_zero]; rfl) (by rfl) ?_
                 apply Exists.intro
                 refine ⟨fun wz hw _ => ?_, ?_⟩
                 · have hcz := hw.cells.1
                   go_simp
                   (with_reducible exact Rg.up_value)
                 simp only [Act.put, List.setIfInBounds_toArray, List.set_cons_zero, List.set_cons_succ])
                (refine Rr.wr_y (by simp only [List.getElem?_toArray, List.getElem?_cons_succ, List.getElem?_cons_zero]; rfl) (by rfl) ?_
                 apply Exists.intro
                 refine ⟨fun wz hw _ => ?_, ?_⟩
                 · have hcz := hw.cells.1
                   go_simp
                   (with_reducible exact Rg.up_value)
                 simp only [Act.put, List.setIfInBounds_toArray, List.set_cons_zero, List.set_cons_succ])
                (refine Rr.wr_y (by simp only [List.getElem?_toArray, List.getElem?_cons_succ, List.getElem?_cons_zero]; rfl) (by rfl) ?_
                 apply Exists.intro
                 refine ⟨fun wz hw _ => ?_, ?_⟩
                 · have hcz := hw.cells.1
                   go_simp
                   (with_reducible exact Rg.up_value)
                 simp only [Act.put, List.setIfInBounds_toArray, List.set_cons_zero, List.set_cons_succ])
                (refine Rr.wr_y (by simp only [List.getElem?_toArray, List.getElem?_cons_succ, List.getElem?_cons_zero]; rfl) (by rfl) ?_
                 apply Exists.intro
                 refine ⟨fun wz hw _ => ?_, ?_⟩
                 · have hcz := hw.cells.1
                   go_simp
                   (with_reducible exact Rg.up_value)
                 simp only [Act.put, List.setIfInBounds_toArray, List.set_cons_zero, List.set_cons_succ])
                (refine Rr.wr_y (by simp only [List.getElem?_toArray, List.getElem?_cons_succ, List.getElem?_cons_zero]; rfl) (by rfl) ?_
                 apply Exists.intro
                 refine ⟨fun wz hw _ => ?_, ?_⟩
                 · have hcz := hw.cells.1
                   go_simp
                   (with_reducible exact Rg.up_value)
                 simp only [Act.put, List.setIfInBounds_toArray, List.set_cons_zero, List.set_cons_succ])
                (refine Rr.wr_y (by simp only [List.getElem?_toArray, List.getElem?_cons_succ, List.getElem?_cons_zero]; rfl) (by rfl) ?_
                 apply Exists.intro
                 refine ⟨fun wz hw _ => ?_, ?_⟩
                 · have hcz := hw.cells.1
                   go_simp
                   (with_reducible exact Rg.up_value)
                 simp only [Act.put, List.setIfInBounds_toArray, List.set_cons_zero, List.set_cons_succ])
                (refine Rr.wr_y (by simp only [List.getElem?_toArray, List.getElem?_cons_succ, List.getElem?_cons_zero]; rfl) (by rfl) ?_
                 apply Exists.intro
                 refine ⟨fun wz hw _ => ?_, ?_⟩
                 · have hcz := hw.cells.1
                   go_simp
                   (with_reducible exact Rg.up_value)
                 simp only [Act.put, List.setIfInBounds_toArray, List.set_cons_zero, List.set_cons_succ])
                (refine Rr.wr_y (by simp only [List.getElem?_toArray, List.getElem?_cons_succ, List.getElem?_cons_zero]; rfl) (by rfl) ?_
                 apply Exists.intro
                 refine ⟨fun wz hw _ => ?_, ?_⟩
                 · have hcz := hw.cells.1
                   go_simp
                   (with_reducible exact Rg.up_value)
                 simp only [Act.put, List.setIfInBounds_toArray, List.set_cons_zero, List.set_cons_succ])
                (refine Rr.wr_y (by simp only [List.getElem?_toArray, List.getElem?_cons_succ, List.getElem?_cons_zero]; rfl) (by rfl) ?_
                 apply Exists.intro
                 refine ⟨fun wz hw _ => ?_, ?_⟩
                 · have hcz := hw.cells.1
                   go_simp
                   (with_reducible exact Rg.up_value)
                 simp only [Act.put, List.setIfInBounds_toArray, List.set_cons_zero, List.set_cons_succ])
                refine Rr.wr_nil ?_
                intro wy hy hh
                simp only [List.length_cons, List.length_nil, List.drop_succ_cons, List.drop_zero, Nat.reduceAdd]
                clear hh
                have HXA := Lib.hid (HX9.out.trans hy); have HYA := Lib.hid (HY9.out.trans hy)
                have c0' := (hy.cells.1 _ _ cl0).trans c0
                have c1' := (hy.cells.1 _ _ cl0).trans c1
                have c2' := (hy.cells.1 _ _ cl0).trans c2
                have c3' := (hy.cells.1 _ _ cl0).trans c3
                have c4' := (hy.cells.1 _ _ cl0).trans c4
                have c5' := (hy.cells.1 _ _ cl0).trans c5
                have cl1 := Nat.lt_of_lt_of_le cl0 hy.size
                clear c0 c1 c2 c3 c4 c5 cl0 u3 ul g4 gl0 hpg hy
                have hpg := HPGE.out wy HYA.out
                by_cases hn : x4 = gN
                · replace hn := hn.symm
                  subst hn
                  rw [if_pos rfl, List.append_nil] at HRG
                  go_upto_region 19 with (fail)
                  have HT8 : Hid (∃ vn8 vo8, RR wy p vl vc vd (.slice (some ⟨qb, 0, none⟩) G.length gc) vn8 vo8 L C D G N O ∧ F = rblks p vl vc vd (.slice (some ⟨qb, 0, none⟩) G.length gc) vn8 vo8) := Lib.hid ⟨vn, vo, HR.out.ext HXA.out, HF.out⟩
                  have HFF8 : Hid (∀ k ∈ F, k ∈ F ∨ w.heap.size ≤ k) := Lib.hid fun k hk => .inl hk
                  have HK8 : Hid (KF F w wy) := Lib.hid (KF.of HXA.out)
                  have p8 := hpg
                  obtain ⟨W8, hW8⟩ : ∃ W8, W8 = wy := ⟨_, rfl⟩
                  rw [← hW8] at HT8 HK8 p8 ⊢
                  clear c0' c1' c2' c3' c4' c5' cl1 hpg hW8
                  obtain ⟨vn8, vo8, hR8, hF8⟩ := HT8.out
                  have HR8 := Lib.hid hR8; have HF8 := Lib.hid hF8
                  clear hR8 hF8 HT8
                  obtain ⟨-, -, -, u3, -, -, ul, -⟩ := rcells HR8.out.at0
                  refine Rr.wp_region ((List.range 7).map (fun i => (i, .y))) (fun _ => (.cells #[] 29, Rg.ptr)) (by kernel_rfl) (by kernel_rfl) ?_
                  simp only [List.range, List.range.loop, List.map_cons, List.map_nil]
                  (refine Rr.wr_y (by simp only [List.getElem?_toArray, List.getElem?_cons_succ, List.getElem?_cons_zero]; rfl) (by rfl) ?_
                   apply Exists.intro
                   refine ⟨fun wz hw _ => ?_, ?_⟩
                   · have hcz := hw.cells.1
                     go_simp
                     (with_reducible exact Rg.up_value)
                   simp only [Act.put, List.setIfInBounds_toArray, List.set_cons_zero, List.set_cons_succ])
                  (refine Rr.wr_y (by simp only [List.getElem?_toArray, List.getElem?_cons_succ, List.getElem?_cons_zero]; rfl) (by rfl) ?_
                   apply Exists.intro
                   refine ⟨fun wz hw _ => ?_, ?_⟩
                   · have hcz := hw.cells.1
                     go_simp
                     (with_reducible exact Rg.up_value)
                   simp only [Act.put, List.setIfInBounds_toArray, List.set_cons_zero, List.set_cons_succ])
                  (refine Rr.wr_y (by simp only [List.getElem?_toArray, List.getElem?_cons_succ, List.getElem?_cons_zero]; rfl) (by rfl) ?_
                   apply Exists.intro
                   refine ⟨fun wz hw _ => ?_, ?_⟩
                   · have hcz := hw.cells.1
                     go_simp
                     (with_reducible exact Rg.up_value)
                   simp only [Act.put, List.setIfInBounds_toArray, List.set_cons_zero, List.set_cons_succ])
                  (refine Rr.wr_y (by simp only [List.getElem?_toArray, List.getElem?_cons_succ, List.getElem?_cons_zero]; rfl) (by rfl) ?_
                   apply Exists.intro
                   refine ⟨fun wz hw _ => ?_, ?_⟩
                   · have hcz := hw.cells.1
                     go_simp
                     (with_reducible exact Rg.up_value)
                   simp only [Act.put, List.setIfInBounds_toArray, List.set_cons_zero, List.set_cons_succ])
                  (refine Rr.wr_y (by simp only [List.getElem?_toArray, List.getElem?_cons_succ, List.getElem?_cons_zero]; rfl) (by rfl) ?_
                   apply Exists.intro
                   refine ⟨fun wz hw _ => ?_, ?_⟩
                   · have hcz := hw.cells.1
                     go_simp
                     (with_reducible exact Rg.up_value)
                   simp only [Act.put, List.setIfInBounds_toArray, List.set_cons_zero, List.set_cons_succ])
                  (refine Rr.wr_y (by simp only [List.getElem?_toArray, List.getElem?_cons_succ, List.getElem?_cons_zero]; rfl) (by rfl) ?_
                   apply Exists.intro
                   refine ⟨fun wz hw _ => ?_, ?_⟩
                   · have hcz := hw.cells.1
                     exact up_row (by rfl) ((hw.block _ (Rg.lt_of_heap p8)).trans p8) Tryz.underlying23 (by kernel_rfl)
                   simp only [Act.put, List.setIfInBounds_toArray, List.set_cons_zero, List.set_cons_succ])
                  (refine Rr.wr_y (by simp only [List.getElem?_toArray, List.getElem?_cons_succ, List.getElem?_cons_zero]; rfl) (by rfl) ?_
                   apply Exists.intro
                   refine ⟨fun wz hw _ => ?_, ?_⟩
                   · have hcz := hw.cells.1
                     go_simp
                     (with_reducible exact Rg.up_value)
                   simp only [Act.put, List.setIfInBounds_toArray, List.set_cons_zero, List.set_cons_succ])
                  refine Rr.wr_nil ?_
                  intro wy hy hh
                  simp only [List.length_cons, List.length_nil, List.drop_succ_cons, List.drop_zero, Nat.reduceAdd]
                  clear hh
                  have HEy := Lib.hid hy
                  clear hy u3 ul p8
                  refine wpList_store_elem rfl (.tmp 108) (.tmp 107) rfl qb i G.length gc 0 G ⟨ga, gb, gl, gn, gN, gt⟩ (by rfl) (by rfl) (row_ext HR8.out.rg HEy.out) rfl hil ?_
                  intro wf hrf hgf
                  have HRF := Lib.hid hrf; have HGF := Lib.hid hgf
                  clear hrf hgf
                  go_wp2_with (fail)
                  go_ret
                  rw [HRR.out, show refB L C D G N O ⟨ga, gb, gl, gn, gN, gt⟩ = _ from (if_pos HRR.out).trans HRG.out]
                  refine ⟨rfl, RP.trans HFF8.out HK8.out (RP.store HR8.out HF8.out HEy.out rfl ?_ HGF.out)⟩
                  rw [List.length_set]
                  exact HRF.out
                · rw [if_neg hn] at HRG
                  go_upto_region 18 with (fail)
                  obtain ⟨-, -, -, u3, -, u5, ul, -⟩ := rcells (HP.out wy HXA.out)
                  refine Rp.wp_regionTE [0] [(0, .y), (1, .y), (2, .y), (3, .y), (4, .y), (5, .y), (6, .y), (7, .y), (8, .y), (9, .y), (10, .y), (11, .y), (12, .m)] [13, 14, 15, 16] (fun _ => (.cells #[.int .i64 x0, .int .i64 x1, .int .i64 x2, .string x3, .int .i64 x4, .int .i64 x5] 23, fun p => .slice (some ⟨p, 0, none⟩) 1 1)) (fun c a d v w h => by have h' : _ ∧ _ := h; exact ⟨(Rr.put_defers a d v).symm.trans h'.1, h'.2⟩) (by kernel_rfl) (by kernel_rfl) ?_
                  (refine Rr.wr_y (by simp only [List.getElem?_toArray, List.getElem?_cons_succ, List.getElem?_cons_zero]; rfl) (by rfl) ?_
                   apply Exists.intro
                   refine ⟨fun wz hw _ => ?_, ?_⟩
                   · have hcz := hw.cells.1
                     go_simp
                     (with_reducible exact Rg.up_value)
                   simp only [Act.put, List.setIfInBounds_toArray, List.set_cons_zero, List.set_cons_succ])
                  (refine Rr.wr_y (by simp only [List.getElem?_toArray, List.getElem?_cons_succ, List.getElem?_cons_zero]; rfl) (by rfl) ?_
                   apply Exists.intro
                   refine ⟨fun wz hw _ => ?_, ?_⟩
                   · have hcz := hw.cells.1
                     go_simp
                     (with_reducible exact Rg.up_value)
                   simp only [Act.put, List.setIfInBounds_toArray, List.set_cons_zero, List.set_cons_succ])
                  (refine Rr.wr_y (by simp only [List.getElem?_toArray, List.getElem?_cons_succ, List.getElem?_cons_zero]; rfl) (by rfl) ?_
                   apply Exists.intro
                   refine ⟨fun wz hw _ => ?_, ?_⟩
                   · have hcz := hw.cells.1
                     go_simp
                     (with_reducible exact Rg.up_value)
                   simp only [Act.put, List.setIfInBounds_toArray, List.set_cons_zero, List.set_cons_succ])
                  (refine Rr.wr_y (by simp only [List.getElem?_toArray, List.getElem?_cons_succ, List.getElem?_cons_zero]; rfl) (by rfl) ?_
                   apply Exists.intro
                   refine ⟨fun wz hw _ => ?_, ?_⟩
                   · have hcz := hw.cells.1
                     go_simp
                     (with_reducible exact Rg.up_value)
                   simp only [Act.put, List.setIfInBounds_toArray, List.set_cons_zero, List.set_cons_succ])
                  (refine Rr.wr_y (by simp only [List.getElem?_toArray, List.getElem?_cons_succ, List.getElem?_cons_zero]; rfl) (by rfl) ?_
                   apply Exists.intro
                   refine ⟨fun wz hw _ => ?_, ?_⟩
                   · have hcz := hw.cells.1
                     go_simp
                     (with_reducible exact Rg.up_value)
                   simp only [Act.put, List.setIfInBounds_toArray, List.set_cons_zero, List.set_cons_succ])
                  (refine Rr.wr_y (by simp only [List.getElem?_toArray, List.getElem?_cons_succ, List.getElem?_cons_zero]; rfl) (by rfl) ?_
                   apply Exists.intro
                   refine ⟨fun wz hw _ => ?_, ?_⟩
                   · have hcz := hw.cells.1
                     go_simp
                     (with_reducible exact Rg.up_value)
                   simp only [Act.put, List.setIfInBounds_toArray, List.set_cons_zero, List.set_cons_succ])
                  (refine Rr.wr_y (by simp only [List.getElem?_toArray, List.getElem?_cons_succ, List.getElem?_cons_zero]; rfl) (by rfl) ?_
                   apply Exists.intro
                   refine ⟨fun wz hw _ => ?_, ?_⟩
                   · have hcz := hw.cells.1
                     go_simp
                     (with_reducible exact Rg.up_value)
                   simp only [Act.put, List.setIfInBounds_toArray, List.set_cons_zero, List.set_cons_succ])
                  (refine Rr.wr_y (by simp only [List.getElem?_toArray, List.getElem?_cons_succ, List.getElem?_cons_zero]; rfl) (by rfl) ?_
                   apply Exists.intro
                   refine ⟨fun wz hw _ => ?_, ?_⟩
                   · have hcz := hw.cells.1
                     go_simp
                     (with_reducible exact Rg.up_value)
                   simp only [Act.put, List.setIfInBounds_toArray, List.set_cons_zero, List.set_cons_succ])
                  (refine Rr.wr_y (by simp only [List.getElem?_toArray, List.getElem?_cons_succ, List.getElem?_cons_zero]; rfl) (by rfl) ?_
                   apply Exists.intro
                   refine ⟨fun wz hw _ => ?_, ?_⟩
                   · have hcz := hw.cells.1
                     go_simp
                     (with_reducible exact Rg.up_value)
                   simp only [Act.put, List.setIfInBounds_toArray, List.set_cons_zero, List.set_cons_succ])
                  (refine Rr.wr_y (by simp only [List.getElem?_toArray, List.getElem?_cons_succ, List.getElem?_cons_zero]; rfl) (by rfl) ?_
                   apply Exists.intro
                   refine ⟨fun wz hw _ => ?_, ?_⟩
                   · have hcz := hw.cells.1
                     go_simp
                     (with_reducible exact Rg.up_value)
                   simp only [Act.put, List.setIfInBounds_toArray, List.set_cons_zero, List.set_cons_succ])
                  (refine Rr.wr_y (by simp only [List.getElem?_toArray, List.getElem?_cons_succ, List.getElem?_cons_zero]; rfl) (by rfl) ?_
                   apply Exists.intro
                   refine ⟨fun wz hw _ => ?_, ?_⟩
                   · have hcz := hw.cells.1
                     go_simp
                     (with_reducible exact Rg.up_value)
                   simp only [Act.put, List.setIfInBounds_toArray, List.set_cons_zero, List.set_cons_succ])
                  (refine Rr.wr_y (by simp only [List.getElem?_toArray, List.getElem?_cons_succ, List.getElem?_cons_zero]; rfl) (by rfl) ?_
                   apply Exists.intro
                   refine ⟨fun wz hw _ => ?_, ?_⟩
                   · have hcz := hw.cells.1
                     exact up_load55 (by rfl) ((hcz _ _ cl1).trans c0') ((hcz _ _ cl1).trans c1') ((hcz _ _ cl1).trans c2') ((hcz _ _ cl1).trans c3') ((hcz _ _ cl1).trans c4') ((hcz _ _ cl1).trans c5')
                   simp only [Act.put, List.setIfInBounds_toArray, List.set_cons_zero, List.set_cons_succ])
                  refine Rr.wr_m (by simp only [List.getElem?_toArray, List.getElem?_cons_succ, List.getElem?_cons_zero]; rfl) (by rfl) (fun wz => by go_simp) (fun pn hpn => ?_)
                  simp only [Act.put, List.setIfInBounds_toArray, List.set_cons_zero, List.set_cons_succ]
                  refine Rr.wr_nil ?_
                  intro wy7 hy7 hh7
                  obtain ⟨-, hb2⟩ := hh7 _ List.mem_cons_self
                  simp only [List.filterMap_cons, List.filterMap_nil, List.getElem?_cons_succ, List.getElem?_cons_zero]
                  have HB2 := Lib.hid hb2; have HE7 := Lib.hid (HXA.out.trans hy7); have HP7 := Lib.hid (HPGE.out wy7 (HYA.out.trans hy7))
                  clear hh7 hb2 hy7 u3 u5 ul hpg c0' c1' c2' c3' c4' c5' cl1
                  refine append_g (cs := Gd.cs) (z := .agg #[.int .i64 0, .int .i64 0, .int .i64 0, .string ⟨#[]⟩, .int .i64 0, .int .i64 0]) 32 23 56 Tryz.underlying32 (by kernel_rfl) (by rfl) (by decide) (by decide) rfl (.tmp 90) (.tmp 98) rfl 0 vo O (by rfl) (row_ext HR.out.ro HE7.out) pn ⟨x0, x1, x2, x3, x4, x5⟩ ⟨rfl, by simp [Gd.cs, Value.oneCell']⟩ (by rfl) HB2.out (by omega) (Nat.zero_le _) ?_
                  intro g1 cap1 wA hrA hgA hatA
                  have hpA : wA.heap[p]? = some (.cells #[vl, vc, vd, .slice (some ⟨qb, 0, none⟩) G.length gc, vn, vo] 80) := (hgA.block p (by have := Rg.lt_of_heap HR.out.at0; have := HE7.out.size; omega) (fun e => HR.out.np HR.out.ro (by decide) e.symm rfl)).trans (HP.out _ HE7.out)
                  have hgo : vo.ownBlock ≠ some pg := fun e => by have := (HR.out.ro.lt pg e).2; have := HPS.out; omega
                  have hpp : pg ≠ p := fun e => by have := Rg.lt_of_heap HR.out.at0; have := HPS.out; omega
                  have HRA := Lib.hid hrA; have HGA := Lib.hid hgA; have HAT := Lib.hid hatA; have HPA := Lib.hid hpA
                  have HQA := Lib.hid ((hgA.block pg (Rg.lt_of_heap HP7.out) (fun e => hgo e.symm)).trans HP7.out)
                  have HPP := Lib.hid hpp
                  obtain ⟨-, -, -, -, -, v5, vll, vf⟩ := rcells hpA
                  have vf5 := vf 5
                  clear hrA hgA hatA vf hpA hgo hpp
                  go_upto_region 19 with (fail)
                  have HRPB : Hid (RP F w p vl vc vd L C D G N (O ++ [⟨x0, x1, x2, x3, x4, x5⟩]) (wA.setCell ⟨p, 5, none⟩ (.slice (some ⟨g1, 0, none⟩) (O.length + 1) cap1))) := Lib.hid (RP.app HR.out HF.out HE7.out HR.out.ro HRA.out (by decide) rfl HGA.out HAT.out (heap_setCell_same wA p 5 _ _ _ HPA.out) (.inr (.inr ⟨rfl, rfl, rfl, rfl, rfl, rfl, rfl, rfl, by simp, rfl⟩)))
                  have p8 : (wA.setCell ⟨p, 5, none⟩ (.slice (some ⟨g1, 0, none⟩) (O.length + 1) cap1)).heap[pg]? = _ := (heap_setCell_other wA _ pg _ HPP.out).trans HQA.out
                  have h80 := heap_setCell_same wA p 5 _ 80 (.slice (some ⟨g1, 0, none⟩) (O.length + 1) cap1) HPA.out
                  generalize wA.setCell ⟨p, 5, none⟩ (.slice (some ⟨g1, 0, none⟩) (O.length + 1) cap1) = W8 at *
                  obtain ⟨F8, ⟨vg8, vn8, vo8, hr8, hf8⟩, hff8, hk8⟩ := HRPB.out
                  have hat8 := hr8.at0
                  rw [h80] at hat8
                  injection hat8 with hat8
                  injection hat8 with hat8 _ _
                  injection hat8 with hat8
                  injection hat8 with _ hat8
                  injection hat8 with _ hat8
                  injection hat8 with _ hat8
                  injection hat8 with hat8 _
                  subst hat8
                  have HT8 : Hid (∃ vn8 vo8, RR W8 p vl vc vd (.slice (some ⟨qb, 0, none⟩) G.length gc) vn8 vo8 L C D G N (O ++ [⟨x0, x1, x2, x3, x4, x5⟩]) ∧ F8 = rblks p vl vc vd (.slice (some ⟨qb, 0, none⟩) G.length gc) vn8 vo8) := Lib.hid ⟨vn8, vo8, hr8, hf8⟩
                  have HFF8 := Lib.hid hff8; have HK8 := Lib.hid hk8
                  clear hr8 hf8 hff8 hk8 h80 v5 vll vf5 HRPB
                  obtain ⟨vn8, vo8, hR8, hF8⟩ := HT8.out
                  have HR8 := Lib.hid hR8; have HF8 := Lib.hid hF8
                  clear hR8 hF8 HT8
                  obtain ⟨-, -, -, u3, -, -, ul, -⟩ := rcells HR8.out.at0
                  refine Rr.wp_region ((List.range 7).map (fun i => (i, .y))) (fun _ => (.cells #[] 29, Rg.ptr)) (by kernel_rfl) (by kernel_rfl) ?_
                  simp only [List.range, List.range.loop, List.map_cons, List.map_nil]
                  (refine Rr.wr_y (by simp only [List.getElem?_toArray, List.getElem?_cons_succ, List.getElem?_cons_zero]; rfl) (by rfl) ?_
                   apply Exists.intro
                   refine ⟨fun wz hw _ => ?_, ?_⟩
                   · have hcz := hw.cells.1
                     go_simp
                     (with_reducible exact Rg.up_value)
                   simp only [Act.put, List.setIfInBounds_toArray, List.set_cons_zero, List.set_cons_succ])
                  (refine Rr.wr_y (by simp only [List.getElem?_toArray, List.getElem?_cons_succ, List.getElem?_cons_zero]; rfl) (by rfl) ?_
                   apply Exists.intro
                   refine ⟨fun wz hw _ => ?_, ?_⟩
                   · have hcz := hw.cells.1
                     go_simp
                     (with_reducible exact Rg.up_value)
                   simp only [Act.put, List.setIfInBounds_toArray, List.set_cons_zero, List.set_cons_succ])
                  (refine Rr.wr_y (by simp only [List.getElem?_toArray, List.getElem?_cons_succ, List.getElem?_cons_zero]; rfl) (by rfl) ?_
                   apply Exists.intro
                   refine ⟨fun wz hw _ => ?_, ?_⟩
                   · have hcz := hw.cells.1
                     go_simp
                     (with_reducible exact Rg.up_value)
                   simp only [Act.put, List.setIfInBounds_toArray, List.set_cons_zero, List.set_cons_succ])
                  (refine Rr.wr_y (by simp only [List.getElem?_toArray, List.getElem?_cons_succ, List.getElem?_cons_zero]; rfl) (by rfl) ?_
                   apply Exists.intro
                   refine ⟨fun wz hw _ => ?_, ?_⟩
                   · have hcz := hw.cells.1
                     go_simp
                     (with_reducible exact Rg.up_value)
                   simp only [Act.put, List.setIfInBounds_toArray, List.set_cons_zero, List.set_cons_succ])
                  (refine Rr.wr_y (by simp only [List.getElem?_toArray, List.getElem?_cons_succ, List.getElem?_cons_zero]; rfl) (by rfl) ?_
                   apply Exists.intro
                   refine ⟨fun wz hw _ => ?_, ?_⟩
                   · have hcz := hw.cells.1
                     go_simp
                     (with_reducible exact Rg.up_value)
                   simp only [Act.put, List.setIfInBounds_toArray, List.set_cons_zero, List.set_cons_succ])
                  (refine Rr.wr_y (by simp only [List.getElem?_toArray, List.getElem?_cons_succ, List.getElem?_cons_zero]; rfl) (by rfl) ?_
                   apply Exists.intro
                   refine ⟨fun wz hw _ => ?_, ?_⟩
                   · have hcz := hw.cells.1
                     exact up_row (by rfl) ((hw.block _ (Rg.lt_of_heap p8)).trans p8) Tryz.underlying23 (by kernel_rfl)
                   simp only [Act.put, List.setIfInBounds_toArray, List.set_cons_zero, List.set_cons_succ])
                  (refine Rr.wr_y (by simp only [List.getElem?_toArray, List.getElem?_cons_succ, List.getElem?_cons_zero]; rfl) (by rfl) ?_
                   apply Exists.intro
                   refine ⟨fun wz hw _ => ?_, ?_⟩
                   · have hcz := hw.cells.1
                     go_simp
                     (with_reducible exact Rg.up_value)
                   simp only [Act.put, List.setIfInBounds_toArray, List.set_cons_zero, List.set_cons_succ])
                  refine Rr.wr_nil ?_
                  intro wy hy hh
                  simp only [List.length_cons, List.length_nil, List.drop_succ_cons, List.drop_zero, Nat.reduceAdd]
                  clear hh
                  have HEy := Lib.hid hy
                  clear hy u3 ul p8
                  refine wpList_store_elem rfl (.tmp 108) (.tmp 107) rfl qb i G.length gc 0 G ⟨ga, gb, gl, gn, gN, gt⟩ (by rfl) (by rfl) (row_ext HR8.out.rg HEy.out) rfl hil ?_
                  intro wf hrf hgf
                  have HRF := Lib.hid hrf; have HGF := Lib.hid hgf
                  clear hrf hgf
                  go_wp2_with (fail)
                  go_ret
                  rw [HRR.out, show refB L C D G N O ⟨ga, gb, gl, gn, gN, gt⟩ = _ from (if_pos HRR.out).trans HRG.out]
                  refine ⟨rfl, RP.trans HFF8.out HK8.out (RP.store HR8.out HF8.out HEy.out rfl ?_ HGF.out)⟩
                  rw [List.length_set]
                  exact HRF.out
      · have HDN := Lib.hid hd
        rw [decide_eq_false hd] at HDU
        clear hd
        go_wp2_with (go_at_call 41; (with_reducible refine HDU.out.mono ?_); rintro e w7 ⟨rfl, hx7⟩)
        have hr : refE L C D N ⟨ga, gb, gl, gn, gN, gt⟩ = 35 := by (rw [HRE.out, if_neg (fun e => e HLL.out), if_pos HDN.out])
        rw [hr, refB_ne (by rw [hr]; decide)]
        go_ret
        exact ⟨rfl, RP.same HW.out (HX6.out.trans hx7)⟩
  · have HLN := Lib.hid hl
    rw [decide_eq_false hl]
    clear hl
    go_wp2_with (fail)
    have hr : refE L C D N ⟨ga, gb, gl, gn, gN, gt⟩ = 34 := by (exact refE_lot HLN.out)
    rw [hr, refB_ne (by rw [hr]; decide)]
    go_ret
    exact ⟨rfl, RP.same HW.out HX6.out⟩
end Go.Proofs.YtnplnfkmcfalhaaGreatDoor
namespace Go.Proofs.YtnplnfkmcfalhaaGreatDoor
set_option linter.unusedVariables false
set_option linter.unusedSimpArgs false
open Go.RowKit

theorem findP_neg {G : List Gd} {k : Pl} : findP G k < 0 ↔ ∀ x ∈ G, x.pl ≠ k := by
  unfold findP
  cases hf : G.findIdx? fun x => decide (x.pl = k) with
  | none =>
    rw [List.findIdx?_eq_none_iff] at hf
    simp only [Int.reduceNeg, Int.reduceLT, true_iff]
    exact fun x hx => by simpa using hf x hx
  | some i =>
    rw [List.findIdx?_eq_some_iff_getElem] at hf
    obtain ⟨hi, hp, -⟩ := hf
    simp only
    constructor
    · intro h; omega
    · intro h
      exact absurd (by simpa using hp) (h _ (List.getElem_mem hi))
theorem ex_take {α : Type} {l : List α} {P : α → Prop} {i : Nat} (h : i < l.length) : (∃ x ∈ l.take (i + 1), P x) ↔ (∃ x ∈ l.take i, P x) ∨ P l[i] := by
  rw [List.take_add_one, List.getElem?_eq_getElem h]
  simp only [Option.toList_some, List.mem_append, List.mem_singleton]
  constructor
  · rintro ⟨x, hx | rfl, hp⟩
    · exact .inl ⟨x, hx, hp⟩
    · exact .inr hp
  · rintro (⟨x, hx, hp⟩ | hp)
    · exact ⟨x, .inl hx, hp⟩
    · exact ⟨_, .inr rfl, hp⟩
set_option maxRecDepth 100000 in
set_option maxHeartbeats 4000000 in
theorem refFinal_any (F : List Nat) (p : Nat) (vl vc vd : Value) (L : List Int) (C : List Cr) (D : List Dy) (G : List Gd) (N : List Int) (O : List Gd) (bid : Int) (w : World) (h : RWF F w p vl vc vd L C D G N O)
    (hL : L.length ≤ 1000) (hC : C.length ≤ 1000) (hD : D.length ≤ 1000) (hG : G.length ≤ 10000) (hN : N.length < 10000) (hLo : ∀ x ∈ L, OkI x) (hNo : ∀ x ∈ N, OkI x) :
    Calls Tryz.prog 20 #[.pointer (some ⟨p, 0, none⟩), .int .i64 bid] w fun e w' => e = .returned (.int .i64 (refF L C D G N bid)) ∧ RP F w p vl vc vd L C D G (refN L C D G N bid) O w' := by
  have HW := Lib.hid h
  obtain ⟨vg, vn, vo, hR, hF⟩ := h
  have HLR := Lib.hid (ird_own hR.rl hLo (by omega))
  have HN := Lib.hid (ird_own hR.rn hNo (by omega))
  have HC := Lib.hid (SR.of_row (cs := Cr.cs) (fun _ => rfl) hR.rc (by omega))
  have HD := Lib.hid (SR.of_row (cs := Dy.cs) (fun _ => rfl) hR.rd (by omega))
  obtain ⟨lb, lc, rfl⟩ := (SR.of_row (cs := celI) (fun _ => rfl) hR.rl (by omega)).form
  obtain ⟨cb, cc, rfl⟩ := HC.out.form
  obtain ⟨db, dc, rfl⟩ := HD.out.form
  have HR := Lib.hid hR; have HF := Lib.hid hF
  have HFI : Hid (∀ k : Gd, ∀ W, Ext w W → Calls Tryz.prog 42 #[.pointer (some ⟨p, 0, none⟩), k.v] W fun e w' => e = .returned (.int .i64 (findP G k.pl)) ∧ Ext W w') := Lib.hid fun k W hW => find_any 0 p L C D G N O k W (hR.rw.ext hW) (by omega)
  have HP : Hid (∀ W, Ext w W → W.heap[p]? = some (.cells #[.slice lb L.length lc, .slice cb C.length cc, .slice db D.length dc, vg, vn, vo] 80)) := Lib.hid fun W hW => (hW.block _ (Rg.lt_of_heap hR.at0)).trans hR.at0
  clear hR hF hLo hNo
  go_enter Tryz.func20, Tryz.ntmps20
  go_upto_region 4 with (fail)
  go_loopw [5, 6, 7] (fun h f k wr => ∃ (i : Nat) (hb fb : Bool), k = .int .i64 i ∧ h = .bool hb ∧ f = .bool fb ∧ i ≤ D.length ∧ Hid (hb = true ↔ ∃ d ∈ D.take i, d.bid = bid) ∧ Hid (fb = true ↔ ∃ d ∈ D.take i, d.bid = bid ∧ ∃ l ∈ L, ∃ c ∈ C, ∀ x ∈ G, x.pl ≠ ⟨bid, l, c.name, d.ass⟩) ∧ Ext w wr) (fun _ _ k _ => D.length - (iof k).toNat)
  case atStart => exact ⟨0, false, false, rfl, rfl, rfl, Nat.zero_le _, Lib.hid (by simp), Lib.hid (by simp), Ext.refl _⟩
  case round =>
    obtain ⟨i, hb, fb, rfl, rfl, rfl, hi, HH, HF1, hx⟩ := hrel
    obtain ⟨-, -, u2, -, -, -, ul, -⟩ := rcells (HP.out wr hx)
    by_cases hil : i < D.length
    · obtain ⟨bd, rfl, hcell⟩ := row_at HD.out i hil
      have d0 := hcell 0 _ rfl
      have d1 := hcell 1 _ rfl
      have HSH := Lib.hid (ex_take (P := fun d : Dy => d.bid = bid) hil)
      have HSF := Lib.hid (ex_take (P := fun d : Dy => d.bid = bid ∧ ∃ l ∈ L, ∃ c ∈ C, ∀ x ∈ G, x.pl ≠ ⟨bid, l, c.name, d.ass⟩) hil)
      clear hcell
      generalize D[i] = d at *
      obtain ⟨da, db'⟩ := d
      simp only [Nat.add_zero] at d0 d1
      have HD0 := Lib.hid d0
      replace d0 := (hx.cells.1 _ _ (World.block_lt_of_cell? w _ d0)).trans d0
      replace d1 := (hx.cells.1 _ _ (World.block_lt_of_cell? w _ d1)).trans d1
      have dl := World.block_lt_of_cell? wr _ d0
      by_cases hbb : db' = bid
      · subst hbb
        have HX := Lib.hid hx
        go_upto_region 9 with (fail)
        obtain ⟨V, hV⟩ : ∃ V, V = wr := ⟨_, rfl⟩
        rw [← hV] at HX ⊢
        clear u2 ul d0 d1 dl hx hV
        have HQ : Hid (fb = true ↔ (∃ d ∈ D.take i, d.bid = db' ∧ ∃ l ∈ L, ∃ c ∈ C, ∀ x ∈ G, x.pl ≠ ⟨db', l, c.name, d.ass⟩)) := HF1
        obtain ⟨A, hAe⟩ : ∃ A, A = (∃ d ∈ D.take i, d.bid = db' ∧ ∃ l ∈ L, ∃ c ∈ C, ∀ x ∈ G, x.pl ≠ ⟨db', l, c.name, d.ass⟩) := ⟨_, rfl⟩
        rw [← hAe] at HQ
        have HAE := Lib.hid hAe
        clear hAe HF1
        go_loopw [6, 8] (fun f k wr => ∃ (j : Nat) (fb : Bool), k = .int .i64 j ∧ f = .bool fb ∧ j ≤ L.length ∧ Hid (fb = true ↔ A ∨ ∃ l ∈ L.take j, ∃ c ∈ C, ∀ x ∈ G, x.pl ≠ ⟨db', l, c.name, da⟩) ∧ Ext w wr) (fun _ k _ => L.length - (iof k).toNat)
        case atStart => exact ⟨0, fb, rfl, rfl, Nat.zero_le _, Lib.hid (by simpa using HQ.out), HX.out⟩
        case round =>
          obtain ⟨j, fb2, rfl, rfl, hj, HF2, hx⟩ := hrel
          obtain ⟨u0, -, -, -, -, -, ul, -⟩ := rcells (HP.out wr hx)
          by_cases hjl : j < L.length
          · obtain ⟨bl, ol, rfl, hcl, hlo⟩ := ird_at HLR.out j hjl
            have HSL := Lib.hid (ex_take (P := fun l : Int => ∃ c ∈ C, ∀ x ∈ G, x.pl ≠ ⟨db', l, c.name, da⟩) hjl)
            have HLC := Lib.hid hcl
            clear hcl hlo
            generalize L[j] = lo at *
            have HX2 := Lib.hid hx
            go_upto_region 12 with (fail)
            obtain ⟨U, hU⟩ : ∃ U, U = wr := ⟨_, rfl⟩
            rw [← hU] at HX2 ⊢
            clear u0 ul hU hx
            obtain ⟨A2, hBe⟩ : ∃ A2, A2 = (A ∨ ∃ l ∈ L.take j, ∃ c ∈ C, ∀ x ∈ G, x.pl ≠ ⟨db', l, c.name, da⟩) := ⟨_, rfl⟩
            rw [← hBe] at HF2
            have HBE := Lib.hid hBe
            clear hBe
            go_loopw [6, 9] (fun f k wr => ∃ (m : Nat) (fb : Bool), k = .int .i64 m ∧ f = .bool fb ∧ m ≤ C.length ∧ Hid (fb = true ↔ A2 ∨ ∃ c ∈ C.take m, ∀ x ∈ G, x.pl ≠ ⟨db', lo, c.name, da⟩) ∧ Ext w wr) (fun _ k _ => C.length - (iof k).toNat)
            case atStart => exact ⟨0, fb2, rfl, rfl, Nat.zero_le _, Lib.hid (by simpa using HF2.out), HX2.out⟩
            case round =>
              obtain ⟨m, fb3, rfl, rfl, hm, HF3, hx⟩ := hrel
              obtain ⟨u0, u1, u2, -, -, -, ul, -⟩ := rcells (HP.out wr hx)
              by_cases hmc : m < C.length
              · obtain ⟨bc, rfl, hcell⟩ := row_at (HC.out.ext hx) m hmc
                have q0 := hcell 0 _ rfl
                have HSC := Lib.hid (ex_take (P := fun c : Cr => ∀ x ∈ G, x.pl ≠ ⟨db', lo, c.name, da⟩) hmc)
                clear hcell
                generalize C[m] = c at *
                obtain ⟨cn, ck, clo, chi, cb'⟩ := c
                simp only [Nat.add_zero] at q0 HSC
                have d0 := (hx.cells.1 _ _ (World.block_lt_of_cell? w _ HD0.out)).trans HD0.out
                have l0 := (hx.cells.1 _ _ (World.block_lt_of_cell? w _ HLC.out)).trans HLC.out
                have hbd := World.block_lt_of_cell? wr _ d0
                have hbl := World.block_lt_of_cell? wr _ l0
                have hbc := World.block_lt_of_cell? wr _ q0
                have HF4 := Lib.hid (fun wz (hw : Ext wr wz) => HFI.out ⟨da, db', lo, cn, 0, 0⟩ wz (hx.trans hw))
                have HZ := Lib.hid (findP_neg (G := G) (k := ⟨db', lo, cn, da⟩))
                have HX3 := Lib.hid hx
                simp only [Gd.v, Gd.pl] at HF4
                clear hx
                generalize findP G ⟨db', lo, cn, da⟩ = z at *
                go_upto_region 14 with (fail)
                refine Rr.wp_region ((List.range 27).map (fun i => (i, .y))) (fun _ => (.cells #[] 29, Rg.ptr)) (by kernel_rfl) (by kernel_rfl) ?_
                simp only [List.range, List.range.loop, List.map_cons, List.map_nil]
                (refine Rr.wr_y (by simp only [List.getElem?_toArray, List.getElem?_cons_succ, List.getElem?_cons_zero]; rfl) (by rfl) ?_
                 apply Exists.intro
                 refine ⟨fun wz hw _ => ?_, ?_⟩
                 · have hcz := hw.cells.1
                   go_simp
                   (with_reducible exact Rg.up_value)
                 simp only [Act.put, List.setIfInBounds_toArray, List.set_cons_zero, List.set_cons_succ])
                (refine Rr.wr_y (by simp only [List.getElem?_toArray, List.getElem?_cons_succ, List.getElem?_cons_zero]; rfl) (by rfl) ?_
                 apply Exists.intro
                 refine ⟨fun wz hw _ => ?_, ?_⟩
                 · have hcz := hw.cells.1
                   go_simp
                   (with_reducible exact Rg.up_value)
                 simp only [Act.put, List.setIfInBounds_toArray, List.set_cons_zero, List.set_cons_succ])
                (refine Rr.wr_y (by simp only [List.getElem?_toArray, List.getElem?_cons_succ, List.getElem?_cons_zero]; rfl) (by rfl) ?_
                 apply Exists.intro
                 refine ⟨fun wz hw _ => ?_, ?_⟩
                 · have hcz := hw.cells.1
                   go_simp
                   (with_reducible exact Rg.up_value)
                 simp only [Act.put, List.setIfInBounds_toArray, List.set_cons_zero, List.set_cons_succ])
                (refine Rr.wr_y (by simp only [List.getElem?_toArray, List.getElem?_cons_succ, List.getElem?_cons_zero]; rfl) (by rfl) ?_
                 apply Exists.intro
                 refine ⟨fun wz hw _ => ?_, ?_⟩
                 · have hcz := hw.cells.1
                   go_simp
                   (with_reducible exact Rg.up_value)
                 simp only [Act.put, List.setIfInBounds_toArray, List.set_cons_zero, List.set_cons_succ])
                (refine Rr.wr_y (by simp only [List.getElem?_toArray, List.getElem?_cons_succ, List.getElem?_cons_zero]; rfl) (by rfl) ?_
                 apply Exists.intro
                 refine ⟨fun wz hw _ => ?_, ?_⟩
                 · have hcz := hw.cells.1
                   go_simp
                   (with_reducible exact Rg.up_value)
                 simp only [Act.put, List.setIfInBounds_toArray, List.set_cons_zero, List.set_cons_succ])
                (refine Rr.wr_y (by simp only [List.getElem?_toArray, List.getElem?_cons_succ, List.getElem?_cons_zero]; rfl) (by rfl) ?_
                 apply Exists.intro
                 refine ⟨fun wz hw _ => ?_, ?_⟩
                 · have hcz := hw.cells.1
                   go_simp
                   (with_reducible exact Rg.up_value)
                 simp only [Act.put, List.setIfInBounds_toArray, List.set_cons_zero, List.set_cons_succ])
                (refine Rr.wr_y (by simp only [List.getElem?_toArray, List.getElem?_cons_succ, List.getElem?_cons_zero]; rfl) (by rfl) ?_
                 apply Exists.intro
                 refine ⟨fun wz hw _ => ?_, ?_⟩
                 · have hcz := hw.cells.1
                   go_simp
                   (with_reducible exact Rg.up_value)
                 simp only [Act.put, List.setIfInBounds_toArray, List.set_cons_zero, List.set_cons_succ])
                (refine Rr.wr_y (by simp only [List.getElem?_toArray, List.getElem?_cons_succ, List.getElem?_cons_zero]; rfl) (by rfl) ?_
                 apply Exists.intro
                 refine ⟨fun wz hw _ => ?_, ?_⟩
                 · have hcz := hw.cells.1
                   go_simp
                   (with_reducible exact Rg.up_value)
                 simp only [Act.put, List.setIfInBounds_toArray, List.set_cons_zero, List.set_cons_succ])
                (refine Rr.wr_y (by simp only [List.getElem?_toArray, List.getElem?_cons_succ, List.getElem?_cons_zero]; rfl) (by rfl) ?_
                 apply Exists.intro
                 refine ⟨fun wz hw _ => ?_, ?_⟩
                 · have hcz := hw.cells.1
                   go_simp
                   (with_reducible exact Rg.up_value)
                 simp only [Act.put, List.setIfInBounds_toArray, List.set_cons_zero, List.set_cons_succ])
                (refine Rr.wr_y (by simp only [List.getElem?_toArray, List.getElem?_cons_succ, List.getElem?_cons_zero]; rfl) (by rfl) ?_
                 apply Exists.intro
                 refine ⟨fun wz hw _ => ?_, ?_⟩
                 · have hcz := hw.cells.1
                   go_simp
                   (with_reducible exact Rg.up_value)
                 simp only [Act.put, List.setIfInBounds_toArray, List.set_cons_zero, List.set_cons_succ])
                (refine Rr.wr_y (by simp only [List.getElem?_toArray, List.getElem?_cons_succ, List.getElem?_cons_zero]; rfl) (by rfl) ?_
                 apply Exists.intro
                 refine ⟨fun wz hw _ => ?_, ?_⟩
                 · have hcz := hw.cells.1
                   go_simp
                   (with_reducible exact Rg.up_value)
                 simp only [Act.put, List.setIfInBounds_toArray, List.set_cons_zero, List.set_cons_succ])
                (refine Rr.wr_y (by simp only [List.getElem?_toArray, List.getElem?_cons_succ, List.getElem?_cons_zero]; rfl) (by rfl) ?_
                 apply Exists.intro
                 refine ⟨fun wz hw _ => ?_, ?_⟩
                 · have hcz := hw.cells.1
                   go_simp
                   (with_reducible exact Rg.up_value)
                 simp only [Act.put, List.setIfInBounds_toArray, List.set_cons_zero, List.set_cons_succ])
                (refine Rr.wr_y (by simp only [List.getElem?_toArray, List.getElem?_cons_succ, List.getElem?_cons_zero]; rfl) (by rfl) ?_
                 apply Exists.intro
                 refine ⟨fun wz hw _ => ?_, ?_⟩
                 · have hcz := hw.cells.1
                   go_simp
                   (with_reducible exact Rg.up_value)
                 simp only [Act.put, List.setIfInBounds_toArray, List.set_cons_zero, List.set_cons_succ])
                (refine Rr.wr_y (by simp only [List.getElem?_toArray, List.getElem?_cons_succ, List.getElem?_cons_zero]; rfl) (by rfl) ?_
                 apply Exists.intro
                 refine ⟨fun wz hw _ => ?_, ?_⟩
                 · have hcz := hw.cells.1
                   go_simp
                   (with_reducible exact Rg.up_value)
                 simp only [Act.put, List.setIfInBounds_toArray, List.set_cons_zero, List.set_cons_succ])
                (refine Rr.wr_y (by simp only [List.getElem?_toArray, List.getElem?_cons_succ, List.getElem?_cons_zero]; rfl) (by rfl) ?_
                 apply Exists.intro
                 refine ⟨fun wz hw _ => ?_, ?_⟩
                 · have hcz := hw.cells.1
                   go_simp
                   (with_reducible exact Rg.up_value)
                 simp only [Act.put, List.setIfInBounds_toArray, List.set_cons_zero, List.set_cons_succ])
                (refine Rr.wr_y (by simp only [List.getElem?_toArray, List.getElem?_cons_succ, List.getElem?_cons_zero]; rfl) (by rfl) ?_
                 apply Exists.intro
                 refine ⟨fun wz hw _ => ?_, ?_⟩
                 · have hcz := hw.cells.1
                   go_simp
                   (with_reducible exact Rg.up_value)
                 simp only [Act.put, List.setIfInBounds_toArray, List.set_cons_zero, List.set_cons_succ])
                (refine Rr.wr_y (by simp only [List.getElem?_toArray, List.getElem?_cons_succ, List.getElem?_cons_zero]; rfl) (by rfl) ?_
                 apply Exists.intro
                 refine ⟨fun wz hw _ => ?_, ?_⟩
                 · have hcz := hw.cells.1
                   go_simp
                   (with_reducible exact Rg.up_value)
                 simp only [Act.put, List.setIfInBounds_toArray, List.set_cons_zero, List.set_cons_succ])
                (refine Rr.wr_y (by simp only [List.getElem?_toArray, List.getElem?_cons_succ, List.getElem?_cons_zero]; rfl) (by rfl) ?_
                 apply Exists.intro
                 refine ⟨fun wz hw _ => ?_, ?_⟩
                 · have hcz := hw.cells.1
                   go_simp
                   (with_reducible exact Rg.up_value)
                 simp only [Act.put, List.setIfInBounds_toArray, List.set_cons_zero, List.set_cons_succ])
                (refine Rr.wr_y (by simp only [List.getElem?_toArray, List.getElem?_cons_succ, List.getElem?_cons_zero]; rfl) (by rfl) ?_
                 apply Exists.intro
                 refine ⟨fun wz hw _ => ?_, ?_⟩
                 · have hcz := hw.cells.1
                   go_simp
                   (with_reducible exact Rg.up_value)
                 simp only [Act.put, List.setIfInBounds_toArray, List.set_cons_zero, List.set_cons_succ])
                (refine Rr.wr_y (by simp only [List.getElem?_toArray, List.getElem?_cons_succ, List.getElem?_cons_zero]; rfl) (by rfl) ?_
                 apply Exists.intro
                 refine ⟨fun wz hw _ => ?_, ?_⟩
                 · have hcz := hw.cells.1
                   go_simp
                   (with_reducible exact Rg.up_value)
                 simp only [Act.put, List.setIfInBounds_toArray, List.set_cons_zero, List.set_cons_succ])
                (refine Rr.wr_y (by simp only [List.getElem?_toArray, List.getElem?_cons_succ, List.getElem?_cons_zero]; rfl) (by rfl) ?_
                 apply Exists.intro
                 refine ⟨fun wz hw _ => ?_, ?_⟩
                 · have hcz := hw.cells.1
                   go_simp
                   (with_reducible exact Rg.up_value)
                 simp only [Act.put, List.setIfInBounds_toArray, List.set_cons_zero, List.set_cons_succ])
                (refine Rr.wr_y (by simp only [List.getElem?_toArray, List.getElem?_cons_succ, List.getElem?_cons_zero]; rfl) (by rfl) ?_
                 apply Exists.intro
                 refine ⟨fun wz hw _ => ?_, ?_⟩
                 · have hcz := hw.cells.1
                   go_simp
                   (with_reducible exact Rg.up_value)
                 simp only [Act.put, List.setIfInBounds_toArray, List.set_cons_zero, List.set_cons_succ])
                (refine Rr.wr_y (by simp only [List.getElem?_toArray, List.getElem?_cons_succ, List.getElem?_cons_zero]; rfl) (by rfl) ?_
                 apply Exists.intro
                 refine ⟨fun wz hw _ => ?_, ?_⟩
                 · have hcz := hw.cells.1
                   go_simp
                   (with_reducible exact Rg.up_value)
                 simp only [Act.put, List.setIfInBounds_toArray, List.set_cons_zero, List.set_cons_succ])
                (refine Rr.wr_y (by simp only [List.getElem?_toArray, List.getElem?_cons_succ, List.getElem?_cons_zero]; rfl) (by rfl) ?_
                 apply Exists.intro
                 refine ⟨fun wz hw _ => ?_, ?_⟩
                 · have hcz := hw.cells.1
                   go_simp
                   (with_reducible exact Rg.up_value)
                 simp only [Act.put, List.setIfInBounds_toArray, List.set_cons_zero, List.set_cons_succ])
                (refine Rr.wr_y (by simp only [List.getElem?_toArray, List.getElem?_cons_succ, List.getElem?_cons_zero]; rfl) (by rfl) ?_
                 apply Exists.intro
                 refine ⟨fun wz hw _ => ?_, ?_⟩
                 · have hcz := hw.cells.1
                   go_simp
                   (with_reducible exact Rg.up_value)
                 simp only [Act.put, List.setIfInBounds_toArray, List.set_cons_zero, List.set_cons_succ])
                (refine Rr.wr_y (by simp only [List.getElem?_toArray, List.getElem?_cons_succ, List.getElem?_cons_zero]; rfl) (by rfl) ?_
                 apply Exists.intro
                 refine ⟨fun wz hw _ => ?_, ?_⟩
                 · have hcz := hw.cells.1
                   go_simp
                   (with_reducible exact Rg.up_value)
                 simp only [Act.put, List.setIfInBounds_toArray, List.set_cons_zero, List.set_cons_succ])
                (refine Rr.wr_y (by simp only [List.getElem?_toArray, List.getElem?_cons_succ, List.getElem?_cons_zero]; rfl) (by rfl) ?_
                 apply Exists.intro
                 refine ⟨fun wz hw _ => ?_, ?_⟩
                 · have hcz := hw.cells.1
                   go_simp
                   apply Rg.up_enter
                   (with_reducible refine (HF4.out wz hw).mono ?_)
                   rintro e w3 ⟨rfl, hb3⟩
                   exact ⟨rfl, hb3⟩
                 simp only [Act.put, List.setIfInBounds_toArray, List.set_cons_zero, List.set_cons_succ])
                refine Rr.wr_nil ?_
                intro wy hy hh
                simp only [List.length_cons, List.length_nil, List.drop_succ_cons, List.drop_zero, Nat.reduceAdd]
                clear hh
                have HX4 := Lib.hid (HX3.out.trans hy)
                clear u0 u1 u2 ul q0 d0 l0 hbd hbl hbc hy HF4
                by_cases hz : z < 0
                · have HN1 := Lib.hid (HZ.out.1 hz)
                  go_wp2_with (fail)
                  exact ⟨⟨m + 1, true, by simp, rfl, by omega, Lib.hid (by rw [HSC.out]; simp only [true_iff]; exact .inr (.inr HN1.out)), HX4.out⟩, by simp [iof]; omega⟩
                · have HN1 := Lib.hid (fun h => hz (HZ.out.2 h))
                  go_wp2_with (fail)
                  refine ⟨⟨m + 1, fb3, by simp, rfl, by omega, Lib.hid ?_, HX4.out⟩, by simp [iof]; omega⟩
                  rw [HSC.out, HF3.out]
                  constructor
                  · rintro (h | h)
                    · exact .inl h
                    · exact .inr (.inl h)
                  · rintro (h | h | h)
                    · exact .inl h
                    · exact .inr h
                    · exact absurd h HN1.out
              · obtain rfl : m = C.length := by omega
                have HX3 := Lib.hid hx
                have HF4 : Hid (fb3 = true ↔ A ∨ ∃ l ∈ L.take (j + 1), ∃ c ∈ C, ∀ x ∈ G, x.pl ≠ ⟨db', l, c.name, da⟩) := Lib.hid (by
                  have h1 := HF3.out
                  rw [List.take_length] at h1
                  rw [h1, HSL.out, HBE.out]
                  exact or_assoc)
                clear hx HF3
                go_wp2_with (fail)
                exact ⟨⟨j + 1, fb3, by simp, rfl, by omega, HF4, HX3.out⟩, by simp [iof]; omega⟩
          · obtain rfl : j = L.length := by omega
            have HX2 := Lib.hid hx
            have HF4 : Hid (fb2 = true ↔ ∃ d ∈ D.take (i + 1), d.bid = db' ∧ ∃ l ∈ L, ∃ c ∈ C, ∀ x ∈ G, x.pl ≠ ⟨db', l, c.name, d.ass⟩) := Lib.hid (by
              have h1 := HF2.out
              rw [List.take_length] at h1
              rw [h1, HSF.out, HAE.out]
              simp only [true_and])
            have HH4 : Hid (true = true ↔ ∃ d ∈ D.take (i + 1), d.bid = db') := Lib.hid (by rw [HSH.out]; simp)
            clear hx HF2
            go_wp2_with (fail)
            exact ⟨⟨i + 1, true, fb2, by simp, rfl, rfl, by omega, HH4, HF4, HX2.out⟩, by simp [iof]; omega⟩
      · have HX := Lib.hid hx
        have HF4 : Hid (fb = true ↔ ∃ d ∈ D.take (i + 1), d.bid = bid ∧ ∃ l ∈ L, ∃ c ∈ C, ∀ x ∈ G, x.pl ≠ ⟨bid, l, c.name, d.ass⟩) := Lib.hid (by
          rw [HSF.out, HF1.out]
          constructor
          · exact .inl
          · rintro (h | ⟨h, -⟩)
            · exact h
            · exact absurd h hbb)
        have HH4 : Hid (hb = true ↔ ∃ d ∈ D.take (i + 1), d.bid = bid) := Lib.hid (by
          rw [HSH.out, HH.out]
          constructor
          · exact .inl
          · rintro (h | h)
            · exact h
            · exact absurd h hbb)
        go_wp2_with (fail)
        exact ⟨⟨i + 1, hb, fb, by simp, rfl, rfl, by omega, HH4, HF4, HX.out⟩, by simp [iof]; omega⟩
    · obtain rfl : i = D.length := by omega
      have HX := Lib.hid hx
      have HH4 : Hid (hb = true ↔ hasR D bid) := Lib.hid (by have := HH.out; rw [List.take_length] at this; exact this)
      have HF4 : Hid (fb = true ↔ fewR L C D G bid) := Lib.hid (by have := HF1.out; rw [List.take_length] at this; exact this)
      clear HH HF1
      go_upto_region 16 with (fail)
      clear u2 ul
      cases hb
      · have HNO : Hid (¬ hasR D bid) := Lib.hid (fun e => by have := HH4.out.2 e; cases this)
        go_wp2_with (fail)
        have hr : refF L C D G N bid = 34 := by (exact refF_34 HNO.out)
        rw [hr, refN_ne (by rw [hr]; decide)]
        go_ret
        exact ⟨rfl, RP.same HW.out HX.out⟩
      · have HYES : Hid (hasR D bid) := Lib.hid (HH4.out.1 rfl)
        obtain ⟨-, -, -, -, u4, -, ul, -⟩ := rcells (HP.out wr HX.out)
        have HCT := Lib.hid (contains_any vn N bid wr (HN.out.ext HX.out))
        by_cases hin : bid ∈ N
        · have HIN := Lib.hid hin
          rw [decide_eq_true hin] at HCT
          clear hin
          go_wp2_with (go_at_call 39; (with_reducible refine HCT.out.mono ?_); rintro e w2 ⟨rfl, hx2⟩)
          have hr : refF L C D G N bid = 33 := by (exact refF_33 HYES.out HIN.out)
          rw [hr, refN_ne (by rw [hr]; decide)]
          go_ret
          exact ⟨rfl, RP.same HW.out (HX.out.trans hx2)⟩
        · have HIN := Lib.hid hin
          rw [decide_eq_false hin] at HCT
          clear hin
          cases fb
          · have HFW : Hid (¬ fewR L C D G bid) := Lib.hid (fun e => by have := HF4.out.2 e; cases this)
            go_upto_region 23 with (go_at_call 39; (with_reducible refine HCT.out.mono ?_); rintro e w2 ⟨rfl, hx2⟩)
            have HX2 := Lib.hid (HX.out.trans hx2)
            clear hx2 u4 ul
            obtain ⟨-, -, -, -, u4, -, ul, -⟩ := rcells (HP.out w2 HX2.out)
            have HXB := Lib.hid (HX2.out.trans (Ext.alloc (Ext.refl w2) (.cells #[.int .i64 bid] 3)))
            go_wp2_with (at_builtin; go_loud (refine append_g (cs := celI) (z := .int .i64 0) 60 3 8 Tryz.underlying60 (by kernel_rfl) (by rfl) (by decide) (by decide) rfl _ _ rfl 0 vn N (by rfl) (row_ext HR.out.rn HXB.out) w2.heap.size bid (celI_len bid) (by rfl) (World.alloc_heap_new _ _) (by omega) (Nat.zero_le _) ?_; intro g1 cap1 wA hrA hgA hatA; have hpA : wA.heap[p]? = some (.cells #[.slice lb L.length lc, .slice cb C.length cc, .slice db D.length dc, vg, vn, vo] 80) := (hgA.block p (by have := Rg.lt_of_heap HR.out.at0; have := HXB.out.size; omega) (fun e => HR.out.np HR.out.rn (by decide) e.symm rfl)).trans (HP.out _ HXB.out); have HRA := Lib.hid hrA; have HGA := Lib.hid hgA; have HAT := Lib.hid hatA; have HPA := Lib.hid hpA; obtain ⟨-, -, -, -, v4, -, vll, vf⟩ := rcells hpA; have vf4 := vf 4; clear hrA hgA hatA vf hpA u4 ul))
            go_ret
            have h0 := refF_0 HYES.out HIN.out HFW.out
            rw [h0, show refN L C D G N bid = N ++ [bid] from if_pos h0]
            exact ⟨rfl, RP.app HR.out HF.out HXB.out HR.out.rn HRA.out (by decide) rfl HGA.out HAT.out (heap_setCell_same wA p 4 _ _ _ HPA.out) (.inr (.inl ⟨rfl, rfl, rfl, rfl, rfl, rfl, rfl, rfl, by simp, rfl⟩))⟩
          · have HFW : Hid (fewR L C D G bid) := Lib.hid (HF4.out.1 rfl)
            go_wp2_with (go_at_call 39; (with_reducible refine HCT.out.mono ?_); rintro e w2 ⟨rfl, hx2⟩)
            have hr : refF L C D G N bid = 24 := by (exact refF_24 HYES.out HIN.out HFW.out)
            rw [hr, refN_ne (by rw [hr]; decide)]
            go_ret
            exact ⟨rfl, RP.same HW.out (HX.out.trans hx2)⟩
end Go.Proofs.YtnplnfkmcfalhaaGreatDoor
namespace Go.Proofs.YtnplnfkmcfalhaaGreatDoor
set_option linter.unusedVariables false
set_option linter.unusedSimpArgs false
open Go.RowKit

theorem row_form {B : Nat} {w : World} {v : Value} {l : List Int} (h : w.ownsRow B 3 1 v l.length (l.flatMap celI)) :
    ∃ A cap, v = .slice A l.length cap ∧ l.length ≤ cap ∧ cap ≤ 9223372036854775807 ∧ (l = [] ∧ A = none ∧ cap = 0 ∨ ∃ g, A = some ⟨g, 0, none⟩ ∧ B ≤ g ∧ ∀ k (h : k < l.length), w.cell? ⟨g, k, none⟩ = some (.int .i64 l[k])) := by
  rcases h.2 with ⟨hn, h0⟩ | ⟨g, cap, cur, hv, hb, hg, h1, h2, h3, h4⟩
  · refine ⟨none, 0, by rw [hn, h0], by omega, by omega, .inl ⟨List.length_eq_zero_iff.1 h0, rfl, rfl⟩⟩
  · refine ⟨_, cap, hv, h1, by unfold maxLen at h2; exact h2, .inr ⟨g, rfl, hb, fun k hk => ?_⟩⟩
    subst hv
    rw [World.ownsRow.cellAt h k (by omega), celI_map]
    simp [hk]

/-- 'append' of ints out of any source. -/
theorem append_any {ops : Array Oper} {rest : List Oper} {o : Oper} {a : Act} {Q : Exit → Act → World → Prop} {w : World} (hgd : o.guard = none) (s x : Operand)
    (ho : o.op = .call { callee := .builtin .append, args := #[s, x], argTypes := #[60, 60] }) (B : Nat) (v : Value) (vs : List Int) (hs : a.eval s = v) (hF : w.ownsRow B 3 1 v vs.length (vs.flatMap celI))
    (A : Option Addr) (c : Nat) (us : List Int) (hx : a.eval x = .slice A us.length c) (hu : us = [] ∨ ∃ b off, A = some ⟨b, off, none⟩ ∧ ∀ k (h : k < us.length), w.cell? ⟨b, off + k, none⟩ = some (.int .i64 us[k]))
    (hn : vs.length + us.length ≤ 1000000) (hB : B ≤ w.heap.size)
    (h : ∀ v' w', w'.ownsRow B 3 1 v' (vs ++ us).length ((vs ++ us).flatMap celI) → w.grownBy w' v.ownBlock → (us ≠ [] → ∃ g cap, v' = .slice (some ⟨g, 0, none⟩) (vs.length + us.length) cap) → (us = [] → v' = v ∧ w' = w) → wpList Tryz.prog ops Q rest (a.put o.dst v') w') : wpList Tryz.prog ops Q (o :: rest) a w := by
  obtain ⟨i0, hi, hz0, hz1, hz2⟩ := info_parts (show (Tryz.prog.info? 3).map (fun i => (i.zero, i.size, i.bytes)) = some (some (.int .i64 0), 1, 8) by kernel_rfl)
  refine wpList_plain hgd fun K hK => ?_
  by_cases h0 : us = []
  · subst h0
    obtain ⟨base, cap, hv, hle⟩ : ∃ base cap, v = .slice base vs.length cap ∧ vs.length ≤ cap := by
      rcases hF.2 with ⟨hn, h0⟩ | ⟨g, cap', cur, hv, hb, hg, h1, h2, h3, h4⟩
      · exact ⟨none, 0, by rw [hn, h0], by omega⟩
      · exact ⟨_, cap', hv, h1⟩
    have hsrc : Src Tryz.prog i0.size 60 (.slice A 0 c) 0 [] w := by
      rw [hz1]
      cases A with
      | none => exact Src.ofNil w Tryz.underlying60 c
      | some a => exact Src.ofSlice w Tryz.underlying60 a 0 c _ (by simp) (by simp) (by simp)
    have hr := run_append_nothing (P := Tryz.prog) w 60 60 o.type 3 i0 Tryz.underlying60 hi base vs.length cap hle (.slice A 0 c) hsrc
    rw [← hv] at hr
    unfold Oper.wp execOp
    simp only [List.length_nil] at hx
    simp only [ho, resolve, invoke, builtin, Sem.run_bind, Sem.run_pure, Result.andThen_ok, List.map_toArray, List.map_cons, List.map_nil, hs, hx, hr]
    exact hK _ _ (h v w (by simpa using hF) ⟨rfl, rfl, rfl, Nat.le_refl _, fun _ _ _ => rfl⟩ (fun h => absurd rfl h) (fun _ => ⟨rfl, rfl⟩))
  · obtain ⟨b, off, rfl, hcell⟩ := hu.resolve_left h0
    have hpos : 0 < us.length := List.length_pos_iff.2 h0
    obtain ⟨g, cap', w', hr, h2, h3, h4, h5⟩ := run_append_lies (P := Tryz.prog) w 60 o.type B 3 i0 _ 1 8 Tryz.underlying60 hi hz0 hz1 hz2 rfl (by decide) v vs.length _ hF ⟨b, off, none⟩ us.length c (us.map (Value.int .i64)) (by simp)
      (by
        intro j u hu
        have hj : j < us.length := by have := (List.getElem?_eq_some_iff.1 hu).1; simpa using this
        rw [List.getElem?_eq_getElem (by simpa using hj)] at hu
        simp only [List.getElem_map, Option.some.injEq] at hu
        subst hu
        rw [Go.WideShapes.add_plain]
        exact hcell j hj) (by intro u hu; obtain ⟨z, -, rfl⟩ := List.mem_map.1 hu; rfl) hpos (by unfold maxLen; omega) (by omega) hB w.heap.size rfl
    unfold Oper.wp execOp
    simp only [ho, resolve, invoke, builtin, Sem.run_bind, Sem.run_pure, Result.andThen_ok, List.map_toArray, List.map_cons, List.map_nil, hs, hx, hr] at *
    refine hK _ _ (h _ w' ?_ h3 (fun _ => ⟨g, cap', rfl⟩) (fun e => absurd e h0))
    rw [List.flatMap_append, List.length_append, celI_map us]
    exact h2

theorem src_take {w wz wv : World} {g k : Nat} {l : List Int} (hw : Ext w wz) (hv : Ext wz wv) (hc : ∀ k (h : k < l.length), w.cell? ⟨g, k, none⟩ = some (.int .i64 l[k])) :
    l.take k = [] ∨ ∃ b off, some (⟨g, 0, none⟩ : Addr) = some ⟨b, off, none⟩ ∧ ∀ j (h : j < (l.take k).length), wv.cell? ⟨b, off + j, none⟩ = some (.int .i64 (l.take k)[j]) := by
  refine .inr ⟨g, 0, rfl, fun j hj => ?_⟩
  rw [List.length_take] at hj
  have := hc j (by omega)
  rw [Nat.zero_add, ((hw.trans hv).cells.1 _ _ (World.block_lt_of_cell? w _ this)), List.getElem_take]
  exact this
theorem src_drop {w wz : World} {g k oc : Nat} {l : List Int} (hw : Ext w wz) (hc : ∀ k (h : k < l.length), w.cell? ⟨g, k, none⟩ = some (.int .i64 l[k])) (hoc : l.length ≤ oc) :
    l.drop k = [] ∨ ∃ b off, some (if oc = k then (⟨g, 0, none⟩ : Addr) else ⟨g, k, none⟩) = some ⟨b, off, none⟩ ∧ ∀ j (h : j < (l.drop k).length), wz.cell? ⟨b, off + j, none⟩ = some (.int .i64 (l.drop k)[j]) := by
  rcases Nat.lt_or_ge k l.length with h | h
  · refine .inr ⟨g, k, by rw [if_neg (by omega)], fun j hj => ?_⟩
    rw [List.length_drop] at hj
    have := hc (k + j) (by omega)
    rw [(hw.cells.1 _ _ (World.block_lt_of_cell? w _ this)), List.getElem_drop]
    exact this
  · exact .inl (List.drop_eq_nil_of_le h)
end Go.Proofs.YtnplnfkmcfalhaaGreatDoor
namespace Go.Proofs.YtnplnfkmcfalhaaGreatDoor
set_option linter.unusedVariables false
set_option linter.unusedSimpArgs false
open Go.RowKit

set_option maxRecDepth 100000 in
set_option maxHeartbeats 4000000 in
theorem refValue_any (p : Nat) (L : List Int) (C : List Cr) (D : List Dy) (G : List Gd) (N : List Int) (O : List Gd) (bid lot : Int) (name : ByteArray) (w : World) (h : RW 0 w p L C D G N O)
    (hL : L.length ≤ 1000) (hC : C.length ≤ 1000) (hG : G.length ≤ 10000) (hN : N.length ≤ 10000) (hLo : ∀ x ∈ L, OkI x) (hNo : ∀ x ∈ N, OkI x)
    (hpos : bid ∈ N ∧ lot ∈ L ∧ (critOf C name).isSome = true → 0 < (vals G bid lot name).length) :
    Calls Tryz.prog 45 #[.pointer (some ⟨p, 0, none⟩), .int .i64 bid, .int .i64 lot, .string name] w fun e w' => e = .returned (.tuple #[.int .i64 (refV L C G N bid lot name).1, .bool (refV L C G N bid lot name).2]) ∧ Ext w w' := by
  obtain ⟨vl, vc, vd, vg, vn, vo, -, h1, h2, h3, -, h5, h6, -⟩ := h
  have HLR := Lib.hid (ird_own h2 hLo (by omega))
  have HNR := Lib.hid (ird_own h6 hNo (by omega))
  have HC := Lib.hid (SR.of_row (cs := Cr.cs) (fun _ => rfl) h3 (by omega))
  have HGR := Lib.hid (SR.of_row (cs := Gd.cs) gd_len h5 (by omega))
  obtain ⟨gb, gc, rfl⟩ := HGR.out.form
  have HP : Hid (∀ W, Ext w W → W.heap[p]? = some (.cells #[vl, vc, vd, .slice gb G.length gc, vn, vo] 80)) := Lib.hid fun W hW => (hW.block _ (Rg.lt_of_heap h1)).trans h1
  have HPOS := Lib.hid hpos
  clear h1 h2 h3 h5 h6 hLo hNo hpos
  go_enter Tryz.func45, Tryz.ntmps45
  obtain ⟨u0, u1, -, -, u4, -, ul, -⟩ := rcells (HP.out w (Ext.refl _))
  obtain ⟨bN, hbN⟩ : ∃ bN, bN = decide (bid ∈ N) := ⟨_, rfl⟩
  obtain ⟨bL, hbL⟩ : ∃ bL, bL = decide (lot ∈ L) := ⟨_, rfl⟩
  have HCN := Lib.hid (contains_any vn N bid w HNR.out)
  rw [← hbN] at HCN
  have HBN := Lib.hid hbN; have HBL := Lib.hid hbL
  clear hbN hbL
  go_upto_region 2 with (go_at_call 39; (with_reducible refine HCN.out.mono ?_); rintro e w1 ⟨rfl, hx1⟩)
  have HX1 := Lib.hid hx1
  clear hx1 u0 u1 u4 ul HCN
  obtain ⟨u0, u1, -, -, u4, -, ul, -⟩ := rcells (HP.out w1 HX1.out)
  have HCL := Lib.hid (contains_any vl L lot w1 (HLR.out.ext HX1.out))
  rw [← HBL.out] at HCL
  go_upto_region 3 with (go_at_call 39; (with_reducible refine HCL.out.mono ?_); rintro e w2 ⟨rfl, hx2⟩)
  have HX2 := Lib.hid (HX1.out.trans hx2)
  clear hx2 u0 u1 u4 ul HCL
  have HCRI := Lib.hid (criterion_any p _ _ _ _ _ _ C name w2 (HP.out w2 HX2.out) (HC.out.ext HX2.out))
  obtain ⟨c, hcv⟩ : ∃ c : Cr, c = (critOf C name).getD zeroCr := ⟨_, rfl⟩
  obtain ⟨kn, hkn⟩ : ∃ kn, kn = (critOf C name).isSome := ⟨_, rfl⟩
  rw [← hcv, ← hkn] at HCRI
  have HKN := Lib.hid hkn
  clear hcv hkn
  obtain ⟨cn, ck, cl, ch, cb⟩ := c
  unfold Cr.v at HCRI
  simp only at HCRI
  go_upto_region 4 with (go_at_call 40; (with_reducible refine HCRI.out.mono ?_); rintro e w5 ⟨rfl, hx5⟩)
  have hx6 : Ext w (w5.alloc (.cells #[.string cn, .int .i64 ck, .int .i64 cl, .int .i64 ch, .bool cb] 73)) := Ext.alloc (HX2.out.trans hx5) _
  clear hx5 HCRI
  generalize w5.alloc (.cells #[.string cn, .int .i64 ck, .int .i64 cl, .int .i64 ch, .bool cb] 73) = W6 at *
  have HX6 := Lib.hid hx6
  clear hx6
  cases bN
  · have hbn : ¬ bid ∈ N := of_decide_eq_false HBN.out.symm
    have HNB := Lib.hid hbn
    clear hbn HBN
    have hr : refV L C G N bid lot name = (0, false) := by
      unfold refV
      rw [if_neg]
      rintro ⟨h1, h2, h3⟩
      (exact HNB.out h1)
    go_wp2_with (fail)
    go_ret2
    exact ⟨by rw [hr]; rfl, HX6.out⟩
  · cases bL
    · have hbn : ¬ lot ∈ L := of_decide_eq_false HBL.out.symm
      have HNB := Lib.hid hbn
      clear hbn HBL
      have hr : refV L C G N bid lot name = (0, false) := by
        unfold refV
        rw [if_neg]
        rintro ⟨h1, h2, h3⟩
        (exact HNB.out h2)
      go_wp2_with (fail)
      go_ret2
      exact ⟨by rw [hr]; rfl, HX6.out⟩
    · cases kn
      · skip
        have hr : refV L C G N bid lot name = (0, false) := by
          unfold refV
          rw [if_neg]
          rintro ⟨h1, h2, h3⟩
          (rw [← HKN.out] at h3; cases h3)
        go_wp2_with (fail)
        go_ret2
        exact ⟨by rw [hr]; rfl, HX6.out⟩
      · have hc : bid ∈ N ∧ lot ∈ L ∧ (critOf C name).isSome = true := ⟨of_decide_eq_true HBN.out.symm, of_decide_eq_true HBL.out.symm, HKN.out.symm⟩
        have HRV : Hid (refV L C G N bid lot name = ((insL (vals G bid lot name)).getD (((insL (vals G bid lot name)).length - 1) / 2) 0, true)) := Lib.hid (by unfold refV; rw [if_pos hc, insL_len, insL_spec])
        have hp0 := HPOS.out hc
        rw [← insL_len] at hp0
        have HP0 := Lib.hid hp0
        clear hc hp0 HPOS HBN HBL HKN
        go_upto_region 8 with (fail)
        go_loopw [14, 15] (fun o k wr => ∃ i : Nat, k = .int .i64 i ∧ i ≤ G.length ∧ wr.ownsRow w.heap.size 3 1 o (insL (vals (G.take i) bid lot name)).length ((insL (vals (G.take i) bid lot name)).flatMap celI) ∧ Ext w wr) (fun _ k _ => G.length - (iof k).toNat)
        case atStart => exact ⟨0, rfl, Nat.zero_le _, World.ownsRow_nil _ _ _ _, HX6.out⟩
        case round =>
          obtain ⟨i, rfl, hi, hrow, hx⟩ := hrel
          have hlv : (insL (vals (G.take i) bid lot name)).length ≤ 10000 := by
            rw [insL_len]
            have := vals_le (G.take i) bid lot name
            rw [List.length_take] at this
            omega
          obtain ⟨-, -, -, u3, -, -, ul, -⟩ := rcells (HP.out wr hx)
          by_cases hil : i < G.length
          · obtain ⟨qb, rfl, hcell⟩ := row_at HGR.out i hil
            have c0 := hcell 0 _ rfl
            have c1 := hcell 1 _ rfl
            have c2 := hcell 2 _ rfl
            have c3 := hcell 3 _ rfl
            have c4 := hcell 4 _ rfl
            have c5 := hcell 5 _ rfl
            have hvt := vals_take G bid lot name i hil
            clear hcell
            obtain ⟨x, hxg⟩ : ∃ x, x = G[i] := ⟨_, rfl⟩
            rw [← hxg] at c0 c1 c2 c3 c4 c5 hvt
            clear hxg
            obtain ⟨x0, x1, x2, x3, x4, x5⟩ := x
            simp only [Nat.add_zero] at c0 c1 c2 c3 c4 c5 hvt
            replace c0 := (hx.cells.1 _ _ (World.block_lt_of_cell? w _ c0)).trans c0
            replace c1 := (hx.cells.1 _ _ (World.block_lt_of_cell? w _ c1)).trans c1
            replace c2 := (hx.cells.1 _ _ (World.block_lt_of_cell? w _ c2)).trans c2
            replace c3 := (hx.cells.1 _ _ (World.block_lt_of_cell? w _ c3)).trans c3
            replace c4 := (hx.cells.1 _ _ (World.block_lt_of_cell? w _ c4)).trans c4
            replace c5 := (hx.cells.1 _ _ (World.block_lt_of_cell? w _ c5)).trans c5
            have HVT := Lib.hid hvt; have HROW := Lib.hid hrow; have HX := Lib.hid hx
            clear hvt hrow
            go_upto_region 11 with (fail)
            have hxa := Lib.hid (Ext.alloc hx (.cells #[.int .i64 x0, .int .i64 x1, .int .i64 x2, .string x3, .int .i64 x4, .int .i64 x5] 23))
            have hz := heap_alloc_new wr (.cells #[.int .i64 x0, .int .i64 x1, .int .i64 x2, .string x3, .int .i64 x4, .int .i64 x5] 23)
            have HROW2 := Lib.hid (row_ext HROW.out (Ext.alloc (Ext.refl wr) (.cells #[.int .i64 x0, .int .i64 x1, .int .i64 x2, .string x3, .int .i64 x4, .int .i64 x5] 23)))
            obtain ⟨qx, hqx⟩ : ∃ qx, qx = wr.heap.size := ⟨_, rfl⟩
            rw [← hqx] at hz ⊢
            clear c0 c1 c2 c3 c4 c5 u3 ul hx hqx HROW
            generalize wr.alloc (.cells #[.int .i64 x0, .int .i64 x1, .int .i64 x2, .string x3, .int .i64 x4, .int .i64 x5] 23) = w2 at *
            have HQ := Lib.hid hz; have HXAA := Lib.hid hxa.out
            obtain ⟨-, z1, z2, z3, -, -, zl⟩ := gcells hz
            clear hz
            by_cases e1 : x1 = bid
            · by_cases e2 : x2 = lot
              · by_cases e3 : x3 = name
                · have HE : Hid (insL (vals (G.take (i + 1)) bid lot name) = insS (insL (vals (G.take i) bid lot name)) x4) := Lib.hid (by rw [HVT.out, if_pos ⟨e1, e2, e3⟩, insL_snoc])
                  subst e1 e2 e3
                  clear HVT
                  go_upto_region 13 with (fail)
                  generalize insL (vals (G.take i) x1 x2 x3) = l at *
                  obtain ⟨A, cap, rfl, hlc, hcm, hrf⟩ := row_form HROW2.out
                  have HRF := Lib.hid hrf
                  clear hrf z1 z2 z3 zl
                  go_loopw [17] (fun k wr => ∃ j : Nat, k = .int .i64 j ∧ j ≤ l.length ∧ Hid (∀ q (hq : q < j) (hl : q < l.length), l[q] < x4) ∧ Ext w2 wr) (fun k _ => l.length - (iof k).toNat)
                  case atStart => exact ⟨0, rfl, Nat.zero_le _, Lib.hid (fun q hq => by omega), Ext.refl _⟩
                  case round =>
                    rename World => wq
                    obtain ⟨j, rfl, hj, HLT, hxq⟩ := hrel
                    by_cases hjl : j < l.length
                    · obtain ⟨g, rfl, hgw, hc⟩ := HRF.out.resolve_left (fun e => by rw [e.1] at hjl; simp at hjl)
                      have cj := (hxq.cells.1 _ _ (World.block_lt_of_cell? w2 _ (hc j hjl))).trans (hc j hjl)
                      have cjl := World.block_lt_of_cell? wq _ cj
                      obtain ⟨-, -, -, -, z4, -, zl⟩ := gcells (keep_heap hxq HQ.out)
                      obtain ⟨y, hy⟩ : ∃ y, y = l[j] := ⟨_, rfl⟩
                      rw [← hy] at cj
                      have HY := Lib.hid hy
                      clear hy
                      go_upto_region 13 with (fail)
                      refine Rr.wp_region ((List.range 12).map (fun i => (i, .y))) (fun _ => (.cells #[] 29, Rg.ptr)) (by kernel_rfl) (by kernel_rfl) ?_
                      simp only [List.range, List.range.loop, List.map_cons, List.map_nil]
                      (refine Rr.wr_y (by simp only [List.getElem?_toArray, List.getElem?_cons_succ, List.getElem?_cons_zero]; rfl) (by rfl) ?_
                       apply Exists.intro
                       refine ⟨fun wz hw _ => ?_, ?_⟩
                       · have hcz := hw.cells.1
                         go_simp
                         (with_reducible exact Rg.up_value)
                       simp only [Act.put, List.setIfInBounds_toArray, List.set_cons_zero, List.set_cons_succ])
                      (refine Rr.wr_y (by simp only [List.getElem?_toArray, List.getElem?_cons_succ, List.getElem?_cons_zero]; rfl) (by rfl) ?_
                       apply Exists.intro
                       refine ⟨fun wz hw _ => ?_, ?_⟩
                       · have hcz := hw.cells.1
                         go_simp
                         (with_reducible exact Rg.up_value)
                       simp only [Act.put, List.setIfInBounds_toArray, List.set_cons_zero, List.set_cons_succ])
                      (refine Rr.wr_y (by simp only [List.getElem?_toArray, List.getElem?_cons_succ, List.getElem?_cons_zero]; rfl) (by rfl) ?_
                       apply Exists.intro
                       refine ⟨fun wz hw _ => ?_, ?_⟩
                       · have hcz := hw.cells.1
                         go_simp
                         (with_reducible exact Rg.up_value)
                       simp only [Act.put, List.setIfInBounds_toArray, List.set_cons_zero, List.set_cons_succ])
                      (refine Rr.wr_y (by simp only [List.getElem?_toArray, List.getElem?_cons_succ, List.getElem?_cons_zero]; rfl) (by rfl) ?_
                       apply Exists.intro
                       refine ⟨fun wz hw _ => ?_, ?_⟩
                       · have hcz := hw.cells.1
                         go_simp
                         (with_reducible exact Rg.up_value)
                       simp only [Act.put, List.setIfInBounds_toArray, List.set_cons_zero, List.set_cons_succ])
                      (refine Rr.wr_y (by simp only [List.getElem?_toArray, List.getElem?_cons_succ, List.getElem?_cons_zero]; rfl) (by rfl) ?_
                       apply Exists.intro
                       refine ⟨fun wz hw _ => ?_, ?_⟩
                       · have hcz := hw.cells.1
                         go_simp
                         (with_reducible exact Rg.up_value)
                       simp only [Act.put, List.setIfInBounds_toArray, List.set_cons_zero, List.set_cons_succ])
                      (refine Rr.wr_y (by simp only [List.getElem?_toArray, List.getElem?_cons_succ, List.getElem?_cons_zero]; rfl) (by rfl) ?_
                       apply Exists.intro
                       refine ⟨fun wz hw _ => ?_, ?_⟩
                       · have hcz := hw.cells.1
                         go_simp
                         (with_reducible exact Rg.up_value)
                       simp only [Act.put, List.setIfInBounds_toArray, List.set_cons_zero, List.set_cons_succ])
                      (refine Rr.wr_y (by simp only [List.getElem?_toArray, List.getElem?_cons_succ, List.getElem?_cons_zero]; rfl) (by rfl) ?_
                       apply Exists.intro
                       refine ⟨fun wz hw _ => ?_, ?_⟩
                       · have hcz := hw.cells.1
                         go_simp
                         (with_reducible exact Rg.up_value)
                       simp only [Act.put, List.setIfInBounds_toArray, List.set_cons_zero, List.set_cons_succ])
                      (refine Rr.wr_y (by simp only [List.getElem?_toArray, List.getElem?_cons_succ, List.getElem?_cons_zero]; rfl) (by rfl) ?_
                       apply Exists.intro
                       refine ⟨fun wz hw _ => ?_, ?_⟩
                       · have hcz := hw.cells.1
                         go_simp
                         (with_reducible exact Rg.up_value)
                       simp only [Act.put, List.setIfInBounds_toArray, List.set_cons_zero, List.set_cons_succ])
                      (refine Rr.wr_y (by simp only [List.getElem?_toArray, List.getElem?_cons_succ, List.getElem?_cons_zero]; rfl) (by rfl) ?_
                       apply Exists.intro
                       refine ⟨fun wz hw _ => ?_, ?_⟩
                       · have hcz := hw.cells.1
                         go_simp
                         (with_reducible exact Rg.up_value)
                       simp only [Act.put, List.setIfInBounds_toArray, List.set_cons_zero, List.set_cons_succ])
                      (refine Rr.wr_y (by simp only [List.getElem?_toArray, List.getElem?_cons_succ, List.getElem?_cons_zero]; rfl) (by rfl) ?_
                       apply Exists.intro
                       refine ⟨fun wz hw _ => ?_, ?_⟩
                       · have hcz := hw.cells.1
                         go_simp
                         (with_reducible exact Rg.up_value)
                       simp only [Act.put, List.setIfInBounds_toArray, List.set_cons_zero, List.set_cons_succ])
                      (refine Rr.wr_y (by simp only [List.getElem?_toArray, List.getElem?_cons_succ, List.getElem?_cons_zero]; rfl) (by rfl) ?_
                       apply Exists.intro
                       refine ⟨fun wz hw _ => ?_, ?_⟩
                       · have hcz := hw.cells.1
                         go_simp
                         (with_reducible exact Rg.up_value)
                       simp only [Act.put, List.setIfInBounds_toArray, List.set_cons_zero, List.set_cons_succ])
                      (refine Rr.wr_y (by simp only [List.getElem?_toArray, List.getElem?_cons_succ, List.getElem?_cons_zero]; rfl) (by rfl) ?_
                       apply Exists.intro
                       refine ⟨fun wz hw _ => ?_, ?_⟩
                       · have hcz := hw.cells.1
                         go_simp
                         (with_reducible exact Rg.up_value)
                       simp only [Act.put, List.setIfInBounds_toArray, List.set_cons_zero, List.set_cons_succ])
                      refine Rr.wr_nil ?_
                      intro wy hy hh
                      simp only [List.length_cons, List.length_nil, List.drop_succ_cons, List.drop_zero, Nat.reduceAdd]
                      clear hh
                      have HXB := Lib.hid (hxq.trans hy)
                      clear cj cjl z4 zl hxq hy
                      by_cases hlt : y < x4
                      · have HLT2 : Hid (∀ q (hq : q < j + 1) (hl : q < l.length), l[q] < x4) := Lib.hid (fun q hq hl => by
                          rcases Nat.lt_or_ge q j with h | h
                          · exact HLT.out q h hl
                          · obtain rfl : q = j := by omega
                            rw [← HY.out]; exact hlt)
                        go_wp2_with (fail)
                        exact ⟨⟨j + 1, by simp, by omega, HLT2, HXB.out⟩, by simp [iof]; omega⟩
                      · have HAT : Hid (insS l x4 = l.take j ++ x4 :: l.drop j) := Lib.hid (insS_at HLT.out hj (fun h => by rw [← HY.out]; exact hlt))
                        have HCE := Lib.hid hc
                        have hxq := HXB.out
                        go_upto_region 15 with (fail)
                        clear hlt HY HLT
                        have hcj : ¬ cap = j := by omega
                        have HLEN1 : Hid ((l.take j).length = j) := Lib.hid (by rw [List.length_take]; omega)
                        have HLEN2 : Hid ((l.drop j).length = l.length - j) := Lib.hid List.length_drop
                        have HOWN0 : Hid ((wy.alloc (.cells #[] 3)).ownsRow wy.heap.size 3 1 (.slice (some ⟨wy.heap.size, 0, none⟩) 0 0) 0 []) := Lib.hid ⟨rfl, .inr ⟨wy.heap.size, 0, #[], rfl, Nat.le_refl _, heap_alloc_new wy _, by simp, by simp, rfl, rfl⟩⟩
                        have HXC := Lib.hid (Ext.alloc (Ext.refl wy) (.cells #[] 3))
                        go_upto_region 16 with (at_builtin; go_loud (refine append_any rfl _ _ rfl wy.heap.size (.slice (some ⟨wy.heap.size, 0, none⟩) 0 0) [] (by rfl) HOWN0.out (some ⟨g, 0, none⟩) cap (l.take j) (by rw [HLEN1.out]; rfl) (src_take HXB.out HXC.out HCE.out) (by have := HLEN1.out; simp only [List.length_nil]; omega) HXC.out.size ?_; intro v1 wA hrA hgA hsA hnA))
                        have HXA : Hid (Ext wy wA) := Lib.hid (grown_ext HXC.out HOWN0.out (Nat.le_refl _) hgA)
                        have HRA : Hid (wA.ownsRow wy.heap.size 3 1 v1 (l.take j).length ((l.take j).flatMap celI)) := Lib.hid hrA
                        clear hrA hgA hsA hnA
                        obtain ⟨-, -, -, -, z4, -, zl⟩ := gcells (keep_heap (hxq.trans HXA.out) HQ.out)
                        have HXD := Lib.hid (Ext.alloc HXA.out (.cells #[.int .i64 x4] 3))
                        go_upto_region 17 with (at_builtin; go_loud (refine append_g (cs := celI) (z := .int .i64 0) 60 3 8 Tryz.underlying60 (by kernel_rfl) (by rfl) (by decide) (by decide) rfl _ _ rfl wy.heap.size v1 (l.take j) (by rfl) (row_ext HRA.out (Ext.alloc (Ext.refl wA) (.cells #[.int .i64 x4] 3))) wA.heap.size x4 (celI_len x4) (by rfl) (World.alloc_heap_new _ _) (by have := HLEN1.out; omega) HXD.out.size ?_; intro g2 cap2 wB hrB hgB hatB))
                        have HXE : Hid (Ext wy wB) := Lib.hid (grown_ext HXD.out (row_ext HRA.out (Ext.alloc (Ext.refl wA) (.cells #[.int .i64 x4] 3))) (Nat.le_refl _) hgB)
                        have HRB : Hid (wB.ownsRow wy.heap.size 3 1 (.slice (some ⟨g2, 0, none⟩) (j + 1) cap2) (l.take j ++ [x4]).length ((l.take j ++ [x4]).flatMap celI)) := Lib.hid (by have h := hrB; rw [show (l.take j).length + 1 = j + 1 by rw [HLEN1.out]] at h; exact h)
                        clear hrB hgB hatB z4 zl
                        have HSZ := Lib.hid HXE.out.size
                        go_wp2_with (at_builtin; go_loud (refine append_any rfl _ _ rfl wy.heap.size (.slice (some ⟨g2, 0, none⟩) (j + 1) cap2) (l.take j ++ [x4]) (by rfl) HRB.out (some ⟨g, j, none⟩) (cap - j) (l.drop j) (by rw [HLEN2.out]; rfl) (by have hs := src_drop (k := j) (hxq.trans HXE.out) HCE.out hlc; rw [if_neg hcj] at hs; exact hs) (by have := HLEN1.out; have := HLEN2.out; rw [List.length_append]; simp only [List.length_cons, List.length_nil] at *; omega) HSZ.out ?_; intro v3 wC hrC hgC hsC hnC))
                        refine ⟨⟨i + 1, by simp, by omega, ?_, HXAA.out.trans (hxq.trans (grown_ext HXE.out HRB.out (Nat.le_refl _) hgC))⟩, by simp [iof]; omega⟩
                        rw [HE.out, HAT.out]
                        have hrC2 := row_base hrC (show w.heap.size ≤ wy.heap.size by have := HXAA.out.size; have := hxq.size; omega)
                        simpa using hrC2
                    · have HAT : Hid (insS l x4 = l.take j ++ x4 :: l.drop j) := Lib.hid (insS_at HLT.out hj (fun h => absurd h hjl))
                      go_upto_region 13 with (fail)
                      refine Rr.wp_region ((List.range 12).map (fun i => (i, .y))) (fun _ => (.cells #[] 29, Rg.ptr)) (by kernel_rfl) (by kernel_rfl) ?_
                      simp only [List.range, List.range.loop, List.map_cons, List.map_nil]
                      (refine Rr.wr_y (by simp only [List.getElem?_toArray, List.getElem?_cons_succ, List.getElem?_cons_zero]; rfl) (by rfl) ?_
                       apply Exists.intro
                       refine ⟨fun wz hw _ => ?_, ?_⟩
                       · have hcz := hw.cells.1
                         go_simp
                         (with_reducible exact Rg.up_value)
                       simp only [Act.put, List.setIfInBounds_toArray, List.set_cons_zero, List.set_cons_succ])
                      (refine Rr.wr_y (by simp only [List.getElem?_toArray, List.getElem?_cons_succ, List.getElem?_cons_zero]; rfl) (by rfl) ?_
                       apply Exists.intro
                       refine ⟨fun wz hw _ => ?_, ?_⟩
                       · have hcz := hw.cells.1
                         go_simp
                         (with_reducible exact Rg.up_value)
                       simp only [Act.put, List.setIfInBounds_toArray, List.set_cons_zero, List.set_cons_succ])
                      (refine Rr.wr_y (by simp only [List.getElem?_toArray, List.getElem?_cons_succ, List.getElem?_cons_zero]; rfl) (by rfl) ?_
                       apply Exists.intro
                       refine ⟨fun wz hw _ => ?_, ?_⟩
                       · have hcz := hw.cells.1
                         go_simp
                         (with_reducible exact Rg.up_value)
                       simp only [Act.put, List.setIfInBounds_toArray, List.set_cons_zero, List.set_cons_succ])
                      (refine Rr.wr_y (by simp only [List.getElem?_toArray, List.getElem?_cons_succ, List.getElem?_cons_zero]; rfl) (by rfl) ?_
                       apply Exists.intro
                       refine ⟨fun wz hw _ => ?_, ?_⟩
                       · have hcz := hw.cells.1
                         go_simp
                         (with_reducible exact Rg.up_value)
                       simp only [Act.put, List.setIfInBounds_toArray, List.set_cons_zero, List.set_cons_succ])
                      (refine Rr.wr_y (by simp only [List.getElem?_toArray, List.getElem?_cons_succ, List.getElem?_cons_zero]; rfl) (by rfl) ?_
                       apply Exists.intro
                       refine ⟨fun wz hw _ => ?_, ?_⟩
                       · have hcz := hw.cells.1
                         go_simp
                         (with_reducible exact Rg.up_value)
                       simp only [Act.put, List.setIfInBounds_toArray, List.set_cons_zero, List.set_cons_succ])
                      refine Rr.wr_skip (by simp only [List.getElem?_toArray, List.getElem?_cons_succ, List.getElem?_cons_zero]; rfl) (by rfl) ?_
                      simp only [Act.put, List.setIfInBounds_toArray, List.set_cons_zero, List.set_cons_succ]
                      refine Rr.wr_skip (by simp only [List.getElem?_toArray, List.getElem?_cons_succ, List.getElem?_cons_zero]; rfl) (by rfl) ?_
                      simp only [Act.put, List.setIfInBounds_toArray, List.set_cons_zero, List.set_cons_succ]
                      refine Rr.wr_skip (by simp only [List.getElem?_toArray, List.getElem?_cons_succ, List.getElem?_cons_zero]; rfl) (by rfl) ?_
                      simp only [Act.put, List.setIfInBounds_toArray, List.set_cons_zero, List.set_cons_succ]
                      refine Rr.wr_skip (by simp only [List.getElem?_toArray, List.getElem?_cons_succ, List.getElem?_cons_zero]; rfl) (by rfl) ?_
                      simp only [Act.put, List.setIfInBounds_toArray, List.set_cons_zero, List.set_cons_succ]
                      refine Rr.wr_skip (by simp only [List.getElem?_toArray, List.getElem?_cons_succ, List.getElem?_cons_zero]; rfl) (by rfl) ?_
                      simp only [Act.put, List.setIfInBounds_toArray, List.set_cons_zero, List.set_cons_succ]
                      refine Rr.wr_skip (by simp only [List.getElem?_toArray, List.getElem?_cons_succ, List.getElem?_cons_zero]; rfl) (by rfl) ?_
                      simp only [Act.put, List.setIfInBounds_toArray, List.set_cons_zero, List.set_cons_succ]
                      refine Rr.wr_skip (by simp only [List.getElem?_toArray, List.getElem?_cons_succ, List.getElem?_cons_zero]; rfl) (by rfl) ?_
                      simp only [Act.put, List.setIfInBounds_toArray, List.set_cons_zero, List.set_cons_succ]
                      refine Rr.wr_nil ?_
                      intro wy hy hh
                      simp only [List.length_cons, List.length_nil, List.drop_succ_cons, List.drop_zero, Nat.reduceAdd]
                      clear hh
                      have HXB := Lib.hid (hxq.trans hy)
                      clear hxq hy
                      have hxq := HXB.out
                      go_upto_region 15 with (fail)
                      clear HLT
                      rcases HRF.out with ⟨hl0, rfl, -⟩ | ⟨g, rfl, hgw, hc⟩
                      · have HL0 := Lib.hid hl0
                        clear hl0
                        have HLEN1 : Hid ((l.take j).length = j) := Lib.hid (by rw [List.length_take]; omega)
                        have HLEN2 : Hid ((l.drop j).length = l.length - j) := Lib.hid List.length_drop
                        have HOWN0 : Hid ((wy.alloc (.cells #[] 3)).ownsRow wy.heap.size 3 1 (.slice (some ⟨wy.heap.size, 0, none⟩) 0 0) 0 []) := Lib.hid ⟨rfl, .inr ⟨wy.heap.size, 0, #[], rfl, Nat.le_refl _, heap_alloc_new wy _, by simp, by simp, rfl, rfl⟩⟩
                        have HXC := Lib.hid (Ext.alloc (Ext.refl wy) (.cells #[] 3))
                        go_upto_region 16 with (at_builtin; go_loud (refine append_any rfl _ _ rfl wy.heap.size (.slice (some ⟨wy.heap.size, 0, none⟩) 0 0) [] (by rfl) HOWN0.out none _ (l.take j) (by rw [HLEN1.out]; rfl) (.inl (by rw [HL0.out]; exact List.take_nil)) (by have := HLEN1.out; simp only [List.length_nil]; omega) HXC.out.size ?_; intro v1 wA hrA hgA hsA hnA))
                        have HXA : Hid (Ext wy wA) := Lib.hid (grown_ext HXC.out HOWN0.out (Nat.le_refl _) hgA)
                        have HRA : Hid (wA.ownsRow wy.heap.size 3 1 v1 (l.take j).length ((l.take j).flatMap celI)) := Lib.hid hrA
                        clear hrA hgA hsA hnA
                        obtain ⟨-, -, -, -, z4, -, zl⟩ := gcells (keep_heap (hxq.trans HXA.out) HQ.out)
                        have HXD := Lib.hid (Ext.alloc HXA.out (.cells #[.int .i64 x4] 3))
                        go_upto_region 17 with (at_builtin; go_loud (refine append_g (cs := celI) (z := .int .i64 0) 60 3 8 Tryz.underlying60 (by kernel_rfl) (by rfl) (by decide) (by decide) rfl _ _ rfl wy.heap.size v1 (l.take j) (by rfl) (row_ext HRA.out (Ext.alloc (Ext.refl wA) (.cells #[.int .i64 x4] 3))) wA.heap.size x4 (celI_len x4) (by rfl) (World.alloc_heap_new _ _) (by have := HLEN1.out; omega) HXD.out.size ?_; intro g2 cap2 wB hrB hgB hatB))
                        have HXE : Hid (Ext wy wB) := Lib.hid (grown_ext HXD.out (row_ext HRA.out (Ext.alloc (Ext.refl wA) (.cells #[.int .i64 x4] 3))) (Nat.le_refl _) hgB)
                        have HRB : Hid (wB.ownsRow wy.heap.size 3 1 (.slice (some ⟨g2, 0, none⟩) (j + 1) cap2) (l.take j ++ [x4]).length ((l.take j ++ [x4]).flatMap celI)) := Lib.hid (by have h := hrB; rw [show (l.take j).length + 1 = j + 1 by rw [HLEN1.out]] at h; exact h)
                        clear hrB hgB hatB z4 zl
                        have HSZ := Lib.hid HXE.out.size
                        go_wp2_with (at_builtin; go_loud (refine append_any rfl _ _ rfl wy.heap.size (.slice (some ⟨g2, 0, none⟩) (j + 1) cap2) (l.take j ++ [x4]) (by rfl) HRB.out none _ (l.drop j) (by rw [HLEN2.out]; rfl) (.inl (by rw [HL0.out]; exact List.drop_nil)) (by have := HLEN1.out; have := HLEN2.out; rw [List.length_append]; simp only [List.length_cons, List.length_nil] at *; omega) HSZ.out ?_; intro v3 wC hrC hgC hsC hnC))
                        refine ⟨⟨i + 1, by simp, by omega, ?_, HXAA.out.trans (hxq.trans (grown_ext HXE.out HRB.out (Nat.le_refl _) hgC))⟩, by simp [iof]; omega⟩
                        rw [HE.out, HAT.out]
                        have hrC2 := row_base hrC (show w.heap.size ≤ wy.heap.size by have := HXAA.out.size; have := hxq.size; omega)
                        simpa using hrC2
                      · have HCE := Lib.hid hc
                        clear hc
                        by_cases hcj : cap = j
                        · skip
                          have HLEN1 : Hid ((l.take j).length = j) := Lib.hid (by rw [List.length_take]; omega)
                          have HLEN2 : Hid ((l.drop j).length = l.length - j) := Lib.hid List.length_drop
                          have HOWN0 : Hid ((wy.alloc (.cells #[] 3)).ownsRow wy.heap.size 3 1 (.slice (some ⟨wy.heap.size, 0, none⟩) 0 0) 0 []) := Lib.hid ⟨rfl, .inr ⟨wy.heap.size, 0, #[], rfl, Nat.le_refl _, heap_alloc_new wy _, by simp, by simp, rfl, rfl⟩⟩
                          have HXC := Lib.hid (Ext.alloc (Ext.refl wy) (.cells #[] 3))
                          go_upto_region 16 with (at_builtin; go_loud (refine append_any rfl _ _ rfl wy.heap.size (.slice (some ⟨wy.heap.size, 0, none⟩) 0 0) [] (by rfl) HOWN0.out (some ⟨g, 0, none⟩) _ (l.take j) (by rw [HLEN1.out]; rfl) (src_take HXB.out HXC.out HCE.out) (by have := HLEN1.out; simp only [List.length_nil]; omega) HXC.out.size ?_; intro v1 wA hrA hgA hsA hnA))
                          have HXA : Hid (Ext wy wA) := Lib.hid (grown_ext HXC.out HOWN0.out (Nat.le_refl _) hgA)
                          have HRA : Hid (wA.ownsRow wy.heap.size 3 1 v1 (l.take j).length ((l.take j).flatMap celI)) := Lib.hid hrA
                          clear hrA hgA hsA hnA
                          obtain ⟨-, -, -, -, z4, -, zl⟩ := gcells (keep_heap (hxq.trans HXA.out) HQ.out)
                          have HXD := Lib.hid (Ext.alloc HXA.out (.cells #[.int .i64 x4] 3))
                          go_upto_region 17 with (at_builtin; go_loud (refine append_g (cs := celI) (z := .int .i64 0) 60 3 8 Tryz.underlying60 (by kernel_rfl) (by rfl) (by decide) (by decide) rfl _ _ rfl wy.heap.size v1 (l.take j) (by rfl) (row_ext HRA.out (Ext.alloc (Ext.refl wA) (.cells #[.int .i64 x4] 3))) wA.heap.size x4 (celI_len x4) (by rfl) (World.alloc_heap_new _ _) (by have := HLEN1.out; omega) HXD.out.size ?_; intro g2 cap2 wB hrB hgB hatB))
                          have HXE : Hid (Ext wy wB) := Lib.hid (grown_ext HXD.out (row_ext HRA.out (Ext.alloc (Ext.refl wA) (.cells #[.int .i64 x4] 3))) (Nat.le_refl _) hgB)
                          have HRB : Hid (wB.ownsRow wy.heap.size 3 1 (.slice (some ⟨g2, 0, none⟩) (j + 1) cap2) (l.take j ++ [x4]).length ((l.take j ++ [x4]).flatMap celI)) := Lib.hid (by have h := hrB; rw [show (l.take j).length + 1 = j + 1 by rw [HLEN1.out]] at h; exact h)
                          clear hrB hgB hatB z4 zl
                          have HSZ := Lib.hid HXE.out.size
                          go_wp2_with (at_builtin; go_loud (refine append_any rfl _ _ rfl wy.heap.size (.slice (some ⟨g2, 0, none⟩) (j + 1) cap2) (l.take j ++ [x4]) (by rfl) HRB.out (some ⟨g, 0, none⟩) _ (l.drop j) (by rw [HLEN2.out]; rfl) (by have hs := src_drop (k := j) (hxq.trans HXE.out) HCE.out hlc; rw [if_pos hcj] at hs; exact hs) (by have := HLEN1.out; have := HLEN2.out; rw [List.length_append]; simp only [List.length_cons, List.length_nil] at *; omega) HSZ.out ?_; intro v3 wC hrC hgC hsC hnC))
                          refine ⟨⟨i + 1, by simp, by omega, ?_, HXAA.out.trans (hxq.trans (grown_ext HXE.out HRB.out (Nat.le_refl _) hgC))⟩, by simp [iof]; omega⟩
                          rw [HE.out, HAT.out]
                          have hrC2 := row_base hrC (show w.heap.size ≤ wy.heap.size by have := HXAA.out.size; have := hxq.size; omega)
                          simpa using hrC2
                        · skip
                          have HLEN1 : Hid ((l.take j).length = j) := Lib.hid (by rw [List.length_take]; omega)
                          have HLEN2 : Hid ((l.drop j).length = l.length - j) := Lib.hid List.length_drop
                          have HOWN0 : Hid ((wy.alloc (.cells #[] 3)).ownsRow wy.heap.size 3 1 (.slice (some ⟨wy.heap.size, 0, none⟩) 0 0) 0 []) := Lib.hid ⟨rfl, .inr ⟨wy.heap.size, 0, #[], rfl, Nat.le_refl _, heap_alloc_new wy _, by simp, by simp, rfl, rfl⟩⟩
                          have HXC := Lib.hid (Ext.alloc (Ext.refl wy) (.cells #[] 3))
                          go_upto_region 16 with (at_builtin; go_loud (refine append_any rfl _ _ rfl wy.heap.size (.slice (some ⟨wy.heap.size, 0, none⟩) 0 0) [] (by rfl) HOWN0.out (some ⟨g, 0, none⟩) _ (l.take j) (by rw [HLEN1.out]; rfl) (src_take HXB.out HXC.out HCE.out) (by have := HLEN1.out; simp only [List.length_nil]; omega) HXC.out.size ?_; intro v1 wA hrA hgA hsA hnA))
                          have HXA : Hid (Ext wy wA) := Lib.hid (grown_ext HXC.out HOWN0.out (Nat.le_refl _) hgA)
                          have HRA : Hid (wA.ownsRow wy.heap.size 3 1 v1 (l.take j).length ((l.take j).flatMap celI)) := Lib.hid hrA
                          clear hrA hgA hsA hnA
                          obtain ⟨-, -, -, -, z4, -, zl⟩ := gcells (keep_heap (hxq.trans HXA.out) HQ.out)
                          have HXD := Lib.hid (Ext.alloc HXA.out (.cells #[.int .i64 x4] 3))
                          go_upto_region 17 with (at_builtin; go_loud (refine append_g (cs := celI) (z := .int .i64 0) 60 3 8 Tryz.underlying60 (by kernel_rfl) (by rfl) (by decide) (by decide) rfl _ _ rfl wy.heap.size v1 (l.take j) (by rfl) (row_ext HRA.out (Ext.alloc (Ext.refl wA) (.cells #[.int .i64 x4] 3))) wA.heap.size x4 (celI_len x4) (by rfl) (World.alloc_heap_new _ _) (by have := HLEN1.out; omega) HXD.out.size ?_; intro g2 cap2 wB hrB hgB hatB))
                          have HXE : Hid (Ext wy wB) := Lib.hid (grown_ext HXD.out (row_ext HRA.out (Ext.alloc (Ext.refl wA) (.cells #[.int .i64 x4] 3))) (Nat.le_refl _) hgB)
                          have HRB : Hid (wB.ownsRow wy.heap.size 3 1 (.slice (some ⟨g2, 0, none⟩) (j + 1) cap2) (l.take j ++ [x4]).length ((l.take j ++ [x4]).flatMap celI)) := Lib.hid (by have h := hrB; rw [show (l.take j).length + 1 = j + 1 by rw [HLEN1.out]] at h; exact h)
                          clear hrB hgB hatB z4 zl
                          have HSZ := Lib.hid HXE.out.size
                          go_wp2_with (at_builtin; go_loud (refine append_any rfl _ _ rfl wy.heap.size (.slice (some ⟨g2, 0, none⟩) (j + 1) cap2) (l.take j ++ [x4]) (by rfl) HRB.out (some ⟨g, j, none⟩) _ (l.drop j) (by rw [HLEN2.out]; rfl) (by have hs := src_drop (k := j) (hxq.trans HXE.out) HCE.out hlc; rw [if_neg hcj] at hs; exact hs) (by have := HLEN1.out; have := HLEN2.out; rw [List.length_append]; simp only [List.length_cons, List.length_nil] at *; omega) HSZ.out ?_; intro v3 wC hrC hgC hsC hnC))
                          refine ⟨⟨i + 1, by simp, by omega, ?_, HXAA.out.trans (hxq.trans (grown_ext HXE.out HRB.out (Nat.le_refl _) hgC))⟩, by simp [iof]; omega⟩
                          rw [HE.out, HAT.out]
                          have hrC2 := row_base hrC (show w.heap.size ≤ wy.heap.size by have := HXAA.out.size; have := hxq.size; omega)
                          simpa using hrC2
                · have e4 : (x3.toList == name.toList) = false := by
                    rw [beq_eq_false_iff_ne]
                    intro e
                    rw [ByteArray.toList_eq, ByteArray.toList_eq] at e
                    exact e3 (Go.WideShapes.bytes_inj e)
                  have HNE := Lib.hid e3
                  clear e3
                  have HE : Hid (vals (G.take (i + 1)) bid lot name = vals (G.take i) bid lot name) := Lib.hid (by rw [HVT.out, if_neg ((fun e => HNE.out e.2.2)), List.append_nil])
                  clear HVT
                  go_wp2_with (fail)
                  exact ⟨⟨i + 1, by simp, by omega, by rw [HE.out]; exact HROW2.out, hxa.out⟩, by simp [iof]; omega⟩
              · have HNE := Lib.hid e2
                have HE : Hid (vals (G.take (i + 1)) bid lot name = vals (G.take i) bid lot name) := Lib.hid (by rw [HVT.out, if_neg ((fun e => HNE.out e.2.1)), List.append_nil])
                clear HVT
                go_wp2_with (fail)
                exact ⟨⟨i + 1, by simp, by omega, by rw [HE.out]; exact HROW2.out, hxa.out⟩, by simp [iof]; omega⟩
            · have HNE := Lib.hid e1
              have HE : Hid (vals (G.take (i + 1)) bid lot name = vals (G.take i) bid lot name) := Lib.hid (by rw [HVT.out, if_neg ((fun e => HNE.out e.1)), List.append_nil])
              clear HVT
              go_wp2_with (fail)
              exact ⟨⟨i + 1, by simp, by omega, by rw [HE.out]; exact HROW2.out, hxa.out⟩, by simp [iof]; omega⟩
          · obtain rfl : i = G.length := by omega
            rw [List.take_length] at hrow hlv
            have HRV2 := HRV
            have hpos := HP0.out
            clear HRV HP0
            generalize insL (vals G bid lot name) = l at *
            obtain ⟨A, cap, rfl, hlc, hcm, hrf⟩ := row_form hrow
            obtain ⟨g, rfl, -, hc⟩ := hrf.resolve_left (fun e => by rw [e.1] at hpos; simp at hpos)
            obtain ⟨m, hm⟩ : ∃ m : Nat, m = (l.length - 1) / 2 := ⟨_, rfl⟩
            have hml : m < l.length := by omega
            have hmi : ((l.length : Int) - 1) / 2 = (m : Int) := by omega
            have cm := hc m hml
            have hgd : l.getD ((l.length - 1) / 2) 0 = l[m] := by rw [← hm, List.getD_eq_getElem?_getD, List.getElem?_eq_getElem hml]; rfl
            rw [hgd] at HRV2
            have HX := Lib.hid hx
            clear hc hrow hgd hm hx hrf
            generalize l[m] = y at *
            go_wp2_with (fail)
            go_ret2
            exact ⟨by rw [HRV2.out]; rfl, HX.out⟩
end Go.Proofs.YtnplnfkmcfalhaaGreatDoor
