/-
  Act.Grade: the grade of an act. Conditions: what the reference's book holds.
-/
import Derived.Test.YtnplnfkmcfalhaaGreatDoorGdP
namespace Go.Proofs.YtnplnfkmcfalhaaGreatDoor
set_option linter.unusedVariables false
set_option linter.unusedSimpArgs false
open Go.RowKit

/-- The cells of a block that was just made or turned. -/
theorem set_ext {w0 w : World} {p i : Nat} {v : Value} (e : Ext w0 w) (h : w0.heap.size ≤ p) : Ext w0 (w.setCell ⟨p, i, none⟩ v) := Below.setCell e h v

set_option maxRecDepth 100000 in
set_option maxHeartbeats 4000000 in
theorem Grade_any (B p : Nat) (L : List Int) (C : List Cr) (D : List Dy) (a0 a1 a2 a3 a4 a5 a6 a7 : Int) (w : World) (h : RB B w p L C D)
    (hL : L.length ≤ 3) (hC : C.length ≤ 4) (hD : D.length ≤ 9) (hLo : ∀ x ∈ L, OkI x) (hDo : ∀ d ∈ D, OkD d) (h1 : OkI a1) (h2 : OkI a2) (h3 : OkI a3) (h4 : OkI a4) (h5 : OkI a5) (h6 : OkI a6) (h7 : OkI a7) :
    Calls Tryz.prog 19 #[.agg #[.int .i64 a0, .int .i64 a1, .int .i64 a2, .int .i64 a3, .int .i64 a4, .int .i64 a5, .int .i64 a6, .int .i64 a7], .pointer (some ⟨p, 0, none⟩)] w fun e w' => ∃ g : Gd, e = .returned g.v ∧ g.ok ∧ Ext w w' := by
  obtain ⟨lb, lc, cb, cc, db, dc, e0, e1, e2, hp, hLR, hCR, hDR⟩ := h.cells (by omega) (by omega) (by omega) hLo
  have HLR := Lib.hid hLR; have HDR := Lib.hid hDR; have HDO := Lib.hid hDo; have HLO := Lib.hid hLo
  have HE : Hid (∀ W, Ext w W → W.cell? ⟨p, 0, none⟩ = some (.slice lb L.length lc) ∧ W.cell? ⟨p, 2, none⟩ = some (.slice db D.length dc) ∧ p < W.heap.size) := Lib.hid fun W hW =>
    ⟨(hW.cells.1 _ _ (World.block_lt_of_cell? w _ e0)).trans e0, (hW.cells.1 _ _ (World.block_lt_of_cell? w _ e0)).trans e2, Nat.lt_of_lt_of_le hp hW.size⟩
  have HOK := Lib.hid (And.intro h2 (And.intro h3 (And.intro h4 (And.intro h6 h7))))
  have HN := Lib.hid (Name_any a5 h5)
  have HNO := Lib.hid (nameB_ok (modZ a5 4).toNat)
  have HO1 := Lib.hid h1
  have HO4 := Lib.hid h4
  generalize nameB (modZ a5 4).toNat = nm at *
  clear h hLR hCR hDR hDo hLo e0 e1 e2 hp h1 h2 h3 h4 h5 h6 h7 cb cc
  go_enter Tryz.func19, Tryz.ntmps19
  go_upto_region 1 with (fail)
  obtain ⟨W1, hW1⟩ : ∃ W1, W1 = (w.alloc (.cells #[.int .i64 a0, .int .i64 a1, .int .i64 a2, .int .i64 a3, .int .i64 a4, .int .i64 a5, .int .i64 a6, .int .i64 a7] 76)).alloc (.cells #[.int .i64 0, .int .i64 0, .int .i64 0, .string ⟨#[]⟩, .int .i64 0, .int .i64 0] 23) := ⟨_, rfl⟩
  have hx1 : Ext w W1 := by rw [hW1]; exact Ext.alloc (Ext.alloc (Ext.refl _) _) _
  have hA1 : W1.heap[w.heap.size]? = some (.cells #[.int .i64 a0, .int .i64 a1, .int .i64 a2, .int .i64 a3, .int .i64 a4, .int .i64 a5, .int .i64 a6, .int .i64 a7] 76) := by rw [hW1, Below.heap_alloc _ _ _ (by simp)]; exact heap_alloc_new _ _
  have hR1 : W1.heap[w.heap.size + 1]? = some (.cells #[.int .i64 0, .int .i64 0, .int .i64 0, .string ⟨#[]⟩, .int .i64 0, .int .i64 0] 23) := by rw [hW1]; exact heap_at _ _ _ (by simp)
  have hs1 : W1.heap.size = w.heap.size + 2 := by rw [hW1]; simp
  rw [← hW1]
  obtain ⟨pa, hpa⟩ : ∃ pa, pa = w.heap.size := ⟨_, rfl⟩
  obtain ⟨pr, hpr⟩ : ∃ pr, pr = w.heap.size + 1 := ⟨_, rfl⟩
  rw [← hpr] at hR1 ⊢
  rw [← hpa] at hA1 ⊢
  have HPP := Lib.hid (show w.heap.size ≤ pa ∧ w.heap.size ≤ pr ∧ pa < W1.heap.size ∧ pr < W1.heap.size ∧ pa ≠ pr by omega)
  have HX1 := Lib.hid hx1; have HR1 := Lib.hid hR1
  clear hW1 hpa hpr hs1 hx1 hR1
  have HA1 := Lib.hid hA1
  obtain ⟨hac, -, pl⟩ := Rg.cells_of hA1
  have q2 := hac 2
  have q3 := hac 3
  have q4 := hac 4
  have q5 := hac 5
  have q6 := hac 6
  have q7 := hac 7
  clear hac hA1
  replace q2 : W1.cell? ⟨pa, 2, none⟩ = some (.int .i64 a2) := q2
  replace q3 : W1.cell? ⟨pa, 3, none⟩ = some (.int .i64 a3) := q3
  replace q4 : W1.cell? ⟨pa, 4, none⟩ = some (.int .i64 a4) := q4
  replace q5 : W1.cell? ⟨pa, 5, none⟩ = some (.int .i64 a5) := q5
  replace q6 : W1.cell? ⟨pa, 6, none⟩ = some (.int .i64 a6) := q6
  replace q7 : W1.cell? ⟨pa, 7, none⟩ = some (.int .i64 a7) := q7
  refine Rr.wp_region [(0, .y), (1, .y), (2, .y), (3, .y), (4, .y), (5, .y), (6, .y), (7, .y), (8, .y), (9, .y), (10, .y), (11, .y), (12, .y), (13, .y), (14, .m)] (fun _ => (.cells #[.int .i64 0, .int .i64 0, .int .i64 0, .string ⟨#[]⟩, .int .i64 0, .int .i64 0] 23, fun p => .pointer (some ⟨p, 0, none⟩))) (by kernel_rfl) (by kernel_rfl) ?_
  (refine Rr.wr_y (by simp only [List.getElem?_toArray, List.getElem?_cons_succ, List.getElem?_cons_zero]; rfl) (by rfl) ?_
   apply Exists.intro
   refine ⟨fun wz hw _ => ?_, ?_⟩
   · have hcz := hw.cells.1
     go_simp
     (with_reducible exact Rg.up_value)
   simp only [Act.put, List.setIfInBounds_toArray, List.set_cons_zero, List.set_cons_succ])
  (refine Rr.wr_y (by simp only [List.getElem?_toArray, List.getElem?_cons_succ, List.getElem?_cons_zero]; rfl) (by rfl) ?_
   apply Exists.intro
   refine ⟨fun wz hw _ => ?_, ?_⟩
   · have hcz := hw.cells.1
     go_simp
     (with_reducible exact Rg.up_value)
   simp only [Act.put, List.setIfInBounds_toArray, List.set_cons_zero, List.set_cons_succ])
  (refine Rr.wr_y (by simp only [List.getElem?_toArray, List.getElem?_cons_succ, List.getElem?_cons_zero]; rfl) (by rfl) ?_
   apply Exists.intro
   refine ⟨fun wz hw _ => ?_, ?_⟩
   · have hcz := hw.cells.1
     go_simp
     (with_reducible exact Rg.up_value)
   simp only [Act.put, List.setIfInBounds_toArray, List.set_cons_zero, List.set_cons_succ])
  (refine Rr.wr_y (by simp only [List.getElem?_toArray, List.getElem?_cons_succ, List.getElem?_cons_zero]; rfl) (by rfl) ?_
   apply Exists.intro
   refine ⟨fun wz hw _ => ?_, ?_⟩
   · have hcz := hw.cells.1
     go_simp
     (with_reducible exact Rg.up_value)
   simp only [Act.put, List.setIfInBounds_toArray, List.set_cons_zero, List.set_cons_succ])
  (refine Rr.wr_y (by simp only [List.getElem?_toArray, List.getElem?_cons_succ, List.getElem?_cons_zero]; rfl) (by rfl) ?_
   apply Exists.intro
   refine ⟨fun wz hw _ => ?_, ?_⟩
   · have hcz := hw.cells.1
     go_simp
     (with_reducible exact Rg.up_value)
   simp only [Act.put, List.setIfInBounds_toArray, List.set_cons_zero, List.set_cons_succ])
  (refine Rr.wr_y (by simp only [List.getElem?_toArray, List.getElem?_cons_succ, List.getElem?_cons_zero]; rfl) (by rfl) ?_
   apply Exists.intro
   refine ⟨fun wz hw _ => ?_, ?_⟩
   · have hcz := hw.cells.1
     go_simp
     (with_reducible exact Rg.up_value)
   simp only [Act.put, List.setIfInBounds_toArray, List.set_cons_zero, List.set_cons_succ])
  (refine Rr.wr_y (by simp only [List.getElem?_toArray, List.getElem?_cons_succ, List.getElem?_cons_zero]; rfl) (by rfl) ?_
   apply Exists.intro
   refine ⟨fun wz hw _ => ?_, ?_⟩
   · have hcz := hw.cells.1
     go_simp
     (with_reducible exact Rg.up_value)
   simp only [Act.put, List.setIfInBounds_toArray, List.set_cons_zero, List.set_cons_succ])
  (refine Rr.wr_y (by simp only [List.getElem?_toArray, List.getElem?_cons_succ, List.getElem?_cons_zero]; rfl) (by rfl) ?_
   apply Exists.intro
   refine ⟨fun wz hw _ => ?_, ?_⟩
   · have hcz := hw.cells.1
     go_simp
     (with_reducible exact Rg.up_value)
   simp only [Act.put, List.setIfInBounds_toArray, List.set_cons_zero, List.set_cons_succ])
  (refine Rr.wr_y (by simp only [List.getElem?_toArray, List.getElem?_cons_succ, List.getElem?_cons_zero]; rfl) (by rfl) ?_
   apply Exists.intro
   refine ⟨fun wz hw _ => ?_, ?_⟩
   · have hcz := hw.cells.1
     go_simp
     apply Rg.up_enter
     (with_reducible refine (HN.out _).mono ?_)
     rintro e w3 ⟨rfl, hb3⟩
     exact ⟨rfl, hb3⟩
   simp only [Act.put, List.setIfInBounds_toArray, List.set_cons_zero, List.set_cons_succ])
  (refine Rr.wr_y (by simp only [List.getElem?_toArray, List.getElem?_cons_succ, List.getElem?_cons_zero]; rfl) (by rfl) ?_
   apply Exists.intro
   refine ⟨fun wz hw _ => ?_, ?_⟩
   · have hcz := hw.cells.1
     go_simp
     (with_reducible exact Rg.up_value)
   simp only [Act.put, List.setIfInBounds_toArray, List.set_cons_zero, List.set_cons_succ])
  (refine Rr.wr_y (by simp only [List.getElem?_toArray, List.getElem?_cons_succ, List.getElem?_cons_zero]; rfl) (by rfl) ?_
   apply Exists.intro
   refine ⟨fun wz hw _ => ?_, ?_⟩
   · have hcz := hw.cells.1
     go_simp
     (with_reducible exact Rg.up_value)
   simp only [Act.put, List.setIfInBounds_toArray, List.set_cons_zero, List.set_cons_succ])
  (refine Rr.wr_y (by simp only [List.getElem?_toArray, List.getElem?_cons_succ, List.getElem?_cons_zero]; rfl) (by rfl) ?_
   apply Exists.intro
   refine ⟨fun wz hw _ => ?_, ?_⟩
   · have hcz := hw.cells.1
     go_simp
     (with_reducible exact Rg.up_value)
   simp only [Act.put, List.setIfInBounds_toArray, List.set_cons_zero, List.set_cons_succ])
  (refine Rr.wr_y (by simp only [List.getElem?_toArray, List.getElem?_cons_succ, List.getElem?_cons_zero]; rfl) (by rfl) ?_
   apply Exists.intro
   refine ⟨fun wz hw _ => ?_, ?_⟩
   · have hcz := hw.cells.1
     go_simp
     (with_reducible exact Rg.up_value)
   simp only [Act.put, List.setIfInBounds_toArray, List.set_cons_zero, List.set_cons_succ])
  (refine Rr.wr_y (by simp only [List.getElem?_toArray, List.getElem?_cons_succ, List.getElem?_cons_zero]; rfl) (by rfl) ?_
   apply Exists.intro
   refine ⟨fun wz hw _ => ?_, ?_⟩
   · have hcz := hw.cells.1
     go_simp
     (with_reducible exact Rg.up_value)
   simp only [Act.put, List.setIfInBounds_toArray, List.set_cons_zero, List.set_cons_succ])
  refine Rr.wr_m (by simp only [List.getElem?_toArray, List.getElem?_cons_succ, List.getElem?_cons_zero]; rfl) (by rfl) (fun wz => by go_simp) (fun pg hpg => ?_)
  simp only [Act.put, List.setIfInBounds_toArray, List.set_cons_zero, List.set_cons_succ]
  refine Rr.wr_nil ?_
  intro wy6 hy6 hh6
  obtain ⟨hb61, hb62⟩ := hh6 _ List.mem_cons_self
  simp only [List.length_cons, List.length_nil, List.drop_succ_cons, List.drop_zero, Nat.reduceAdd]
  refine wpList_store_row (hgd := rfl) 23 (.tmp 5) (.tmp 20) rfl pg (by rfl) #[.int .i64 a2, .int .i64 a3, .int .i64 a4, .string nm, .int .i64 a6, .int .i64 a7] (by rfl) #[.int .i64 0, .int .i64 0, .int .i64 0, .string ⟨#[]⟩, .int .i64 0, .int .i64 0] 23 hb62 (by rfl) (by kernel_rfl) (by simp [Value.oneCell']) ?_
  have hbo := setRow_heap wy6 pg _ #[.int .i64 a2, .int .i64 a3, .int .i64 a4, .string nm, .int .i64 a6, .int .i64 a7] 23 _ hb62
  have hx7 : Ext W1 (wy6.setRow pg #[.int .i64 a2, .int .i64 a3, .int .i64 a4, .string nm, .int .i64 a6, .int .i64 a7]) := below_setRow hy6 hb61 _
  clear hh6 hb62 hy6 q2 q3 q4 q5 q6 q7 pl
  obtain ⟨W, hW⟩ : ∃ W, W = wy6.setRow pg #[.int .i64 a2, .int .i64 a3, .int .i64 a4, .string nm, .int .i64 a6, .int .i64 a7] := ⟨_, rfl⟩
  rw [← hW] at hbo hx7 ⊢
  clear hW
  have HA := Lib.hid (keep_heap hx7 HA1.out); have HR := Lib.hid (keep_heap hx7 HR1.out); have HX := Lib.hid (HX1.out.trans hx7)
  have HG := Lib.hid hbo
  have HGN : Hid (w.heap.size ≤ pg ∧ pg ≠ pr ∧ pg ≠ pa) := Lib.hid (by have := HPP.out; omega)
  clear hx7 hbo HA1 HR1 HX1 hb61
  by_cases cd1 : 0 ≤ a1
  · by_cases cd2 : 0 < D.length
    · skip
      have cd3 : (0 : Int) < D.length := by omega
      obtain ⟨ii, hii⟩ : ∃ ii : Nat, a1 % (D.length : Int) = (ii : Int) := ⟨(a1 % (D.length : Int)).toNat, by have := Int.emod_nonneg a1 (b := (D.length : Int)) (by omega); omega⟩
      have hmod : a1.tmod (D.length : Int) = (ii : Int) := by rw [Int.tmod_eq_emod_of_nonneg cd1]; exact hii
      have hil : ii < D.length := by have := Int.emod_lt_of_pos a1 (b := (D.length : Int)) (by omega); omega
      have hiz : (ii : Int) < D.length := by omega
      have hnn : ¬ D = [] := by intro e; rw [e] at cd2; simp at cd2
      obtain ⟨bd, rfl, hcell⟩ := row_at (HDR.out.ext HX.out) ii hil
      have r0 := hcell 0 _ rfl
      have r1 := hcell 1 _ rfl
      have hbl := World.block_lt_of_cell? W _ r0
      have HOD := Lib.hid (HDO.out _ (List.getElem_mem hil))
      clear hcell hii
      generalize D[ii] = d at *
      obtain ⟨da, db'⟩ := d
      simp only [Nat.add_zero] at r0 r1
      obtain ⟨-, g2, hp⟩ := HE.out W HX.out
      have q1 := cell_of_row W pa 1 _ _ _ HA.out
      have pl := Rg.lt_of_heap HA.out
      go_upto_region 3 with (fail)
      refine Rr.wp_region [(0, .y), (1, .y), (2, .y), (3, .y), (4, .y), (5, .y), (6, .y), (7, .y), (8, .y), (9, .y), (10, .y), (11, .y), (12, .y), (13, .y), (14, .m)] (fun _ => (.cells #[.int .i64 0, .int .i64 0] 57, fun p => .pointer (some ⟨p, 0, none⟩))) (by kernel_rfl) (by kernel_rfl) ?_
      (refine Rr.wr_y (by simp only [List.getElem?_toArray, List.getElem?_cons_succ, List.getElem?_cons_zero]; rfl) (by rfl) ?_
       apply Exists.intro
       refine ⟨fun wz hw _ => ?_, ?_⟩
       · have hcz := hw.cells.1
         go_simp
         (with_reducible exact Rg.up_value)
       simp only [Act.put, List.setIfInBounds_toArray, List.set_cons_zero, List.set_cons_succ])
      (refine Rr.wr_y (by simp only [List.getElem?_toArray, List.getElem?_cons_succ, List.getElem?_cons_zero]; rfl) (by rfl) ?_
       apply Exists.intro
       refine ⟨fun wz hw _ => ?_, ?_⟩
       · have hcz := hw.cells.1
         go_simp
         (with_reducible exact Rg.up_value)
       simp only [Act.put, List.setIfInBounds_toArray, List.set_cons_zero, List.set_cons_succ])
      (refine Rr.wr_y (by simp only [List.getElem?_toArray, List.getElem?_cons_succ, List.getElem?_cons_zero]; rfl) (by rfl) ?_
       apply Exists.intro
       refine ⟨fun wz hw _ => ?_, ?_⟩
       · have hcz := hw.cells.1
         go_simp
         (with_reducible exact Rg.up_value)
       simp only [Act.put, List.setIfInBounds_toArray, List.set_cons_zero, List.set_cons_succ])
      (refine Rr.wr_y (by simp only [List.getElem?_toArray, List.getElem?_cons_succ, List.getElem?_cons_zero]; rfl) (by rfl) ?_
       apply Exists.intro
       refine ⟨fun wz hw _ => ?_, ?_⟩
       · have hcz := hw.cells.1
         go_simp
         (with_reducible exact Rg.up_value)
       simp only [Act.put, List.setIfInBounds_toArray, List.set_cons_zero, List.set_cons_succ])
      (refine Rr.wr_y (by simp only [List.getElem?_toArray, List.getElem?_cons_succ, List.getElem?_cons_zero]; rfl) (by rfl) ?_
       apply Exists.intro
       refine ⟨fun wz hw _ => ?_, ?_⟩
       · have hcz := hw.cells.1
         go_simp
         (with_reducible exact Rg.up_value)
       simp only [Act.put, List.setIfInBounds_toArray, List.set_cons_zero, List.set_cons_succ])
      (refine Rr.wr_y (by simp only [List.getElem?_toArray, List.getElem?_cons_succ, List.getElem?_cons_zero]; rfl) (by rfl) ?_
       apply Exists.intro
       refine ⟨fun wz hw _ => ?_, ?_⟩
       · have hcz := hw.cells.1
         go_simp
         (with_reducible exact Rg.up_value)
       simp only [Act.put, List.setIfInBounds_toArray, List.set_cons_zero, List.set_cons_succ])
      (refine Rr.wr_y (by simp only [List.getElem?_toArray, List.getElem?_cons_succ, List.getElem?_cons_zero]; rfl) (by rfl) ?_
       apply Exists.intro
       refine ⟨fun wz hw _ => ?_, ?_⟩
       · have hcz := hw.cells.1
         go_simp
         (with_reducible exact Rg.up_value)
       simp only [Act.put, List.setIfInBounds_toArray, List.set_cons_zero, List.set_cons_succ])
      (refine Rr.wr_y (by simp only [List.getElem?_toArray, List.getElem?_cons_succ, List.getElem?_cons_zero]; rfl) (by rfl) ?_
       apply Exists.intro
       refine ⟨fun wz hw _ => ?_, ?_⟩
       · have hcz := hw.cells.1
         go_simp
         (with_reducible exact Rg.up_value)
       simp only [Act.put, List.setIfInBounds_toArray, List.set_cons_zero, List.set_cons_succ])
      (refine Rr.wr_y (by simp only [List.getElem?_toArray, List.getElem?_cons_succ, List.getElem?_cons_zero]; rfl) (by rfl) ?_
       apply Exists.intro
       refine ⟨fun wz hw _ => ?_, ?_⟩
       · have hcz := hw.cells.1
         go_simp
         (with_reducible exact Rg.up_value)
       simp only [Act.put, List.setIfInBounds_toArray, List.set_cons_zero, List.set_cons_succ])
      (refine Rr.wr_y (by simp only [List.getElem?_toArray, List.getElem?_cons_succ, List.getElem?_cons_zero]; rfl) (by rfl) ?_
       apply Exists.intro
       refine ⟨fun wz hw _ => ?_, ?_⟩
       · have hcz := hw.cells.1
         go_simp
         (with_reducible exact Rg.up_value)
       simp only [Act.put, List.setIfInBounds_toArray, List.set_cons_zero, List.set_cons_succ])
      (refine Rr.wr_y (by simp only [List.getElem?_toArray, List.getElem?_cons_succ, List.getElem?_cons_zero]; rfl) (by rfl) ?_
       apply Exists.intro
       refine ⟨fun wz hw _ => ?_, ?_⟩
       · have hcz := hw.cells.1
         go_simp
         (with_reducible exact Rg.up_value)
       simp only [Act.put, List.setIfInBounds_toArray, List.set_cons_zero, List.set_cons_succ])
      (refine Rr.wr_y (by simp only [List.getElem?_toArray, List.getElem?_cons_succ, List.getElem?_cons_zero]; rfl) (by rfl) ?_
       apply Exists.intro
       refine ⟨fun wz hw _ => ?_, ?_⟩
       · have hcz := hw.cells.1
         go_simp
         (with_reducible exact Rg.up_value)
       simp only [Act.put, List.setIfInBounds_toArray, List.set_cons_zero, List.set_cons_succ])
      (refine Rr.wr_y (by simp only [List.getElem?_toArray, List.getElem?_cons_succ, List.getElem?_cons_zero]; rfl) (by rfl) ?_
       apply Exists.intro
       refine ⟨fun wz hw _ => ?_, ?_⟩
       · have hcz := hw.cells.1
         go_simp
         (with_reducible exact Rg.up_value)
       simp only [Act.put, List.setIfInBounds_toArray, List.set_cons_zero, List.set_cons_succ])
      (refine Rr.wr_y (by simp only [List.getElem?_toArray, List.getElem?_cons_succ, List.getElem?_cons_zero]; rfl) (by rfl) ?_
       apply Exists.intro
       refine ⟨fun wz hw _ => ?_, ?_⟩
       · have hcz := hw.cells.1
         exact up_load51 (by rfl) ((hcz _ _ hbl).trans r0) ((hcz _ _ hbl).trans r1)
       simp only [Act.put, List.setIfInBounds_toArray, List.set_cons_zero, List.set_cons_succ])
      refine Rr.wr_m (by simp only [List.getElem?_toArray, List.getElem?_cons_succ, List.getElem?_cons_zero]; rfl) (by rfl) (fun wz => by go_simp) (fun pd hpd => ?_)
      simp only [Act.put, List.setIfInBounds_toArray, List.set_cons_zero, List.set_cons_succ]
      refine Rr.wr_nil ?_
      intro wy hy hh
      obtain ⟨hb1, hb2⟩ := hh _ List.mem_cons_self
      simp only [List.length_cons, List.length_nil, List.drop_succ_cons, List.drop_zero, Nat.reduceAdd]
      refine wpList_store_row (hgd := rfl) 57 (.tmp 6) (.tmp 45) rfl pd (by rfl) #[.int .i64 da, .int .i64 db'] (by rfl) #[.int .i64 0, .int .i64 0] 57 hb2 (by rfl) (by kernel_rfl) (by simp [Value.oneCell']) ?_
      have hbo := setRow_heap wy pd _ #[.int .i64 da, .int .i64 db'] 57 _ hb2
      have hx7 : Ext W (wy.setRow pd #[.int .i64 da, .int .i64 db']) := below_setRow hy hb1 _
      generalize wy.setRow pd #[.int .i64 da, .int .i64 db'] = W2 at *
      have HG2 := Lib.hid (keep_heap hx7 HG.out); have HA2 := Lib.hid (keep_heap hx7 HA.out); have HR2 := Lib.hid (keep_heap hx7 HR.out); have HX2 := Lib.hid (HX.out.trans hx7)
      clear r0 r1 hbl g2 hp q1 pl hh hb2 hy hx7 hmod hiz hnn hb1
      have s0 := cell_of_row W2 pd 0 _ _ _ hbo
      have s1 := cell_of_row W2 pd 1 _ _ _ hbo
      obtain ⟨gc, gf, gl⟩ := Rg.cells_of HG2.out
      have gf0 := gf 0
      have gf1 := gf 1
      have gc0 : W2.cell? ⟨pg, 0, none⟩ = some (.int .i64 a2) := gc 0
      have gc1 : W2.cell? ⟨pg, 1, none⟩ = some (.int .i64 a3) := gc 1
      clear gc gf
      go_upto_region 6 with (fail)
      obtain ⟨U, hU⟩ : ∃ U, U = (W2.setCell ⟨pg, 0, none⟩ (.int .i64 da)).setCell ⟨pg, 1, none⟩ (.int .i64 db') := ⟨_, rfl⟩
      have HUG : Hid (U.heap[pg]? = some (.cells #[.int .i64 da, .int .i64 db', .int .i64 a4, .string nm, .int .i64 a6, .int .i64 a7] 23)) := Lib.hid (by rw [hU]; exact heap_setCell_same _ pg 1 _ 23 _ (heap_setCell_same W2 pg 0 _ 23 _ HG2.out))
      have HUA : Hid (U.heap[pa]? = some (.cells #[.int .i64 a0, .int .i64 a1, .int .i64 a2, .int .i64 a3, .int .i64 a4, .int .i64 a5, .int .i64 a6, .int .i64 a7] 76)) := Lib.hid (by rw [hU]; exact (heap_setCell_other _ _ pa _ (by have := HGN.out; show pa ≠ pg; omega)).trans ((heap_setCell_other W2 _ pa _ (by have := HGN.out; show pa ≠ pg; omega)).trans HA2.out))
      have HUR : Hid (U.heap[pr]? = some (.cells #[.int .i64 0, .int .i64 0, .int .i64 0, .string ⟨#[]⟩, .int .i64 0, .int .i64 0] 23)) := Lib.hid (by rw [hU]; exact (heap_setCell_other _ _ pr _ (by have := HGN.out; show pr ≠ pg; omega)).trans ((heap_setCell_other W2 _ pr _ (by have := HGN.out; show pr ≠ pg; omega)).trans HR2.out))
      have HUX : Hid (Ext w U) := Lib.hid (by rw [hU]; exact Below.setCell (Below.setCell HX2.out HGN.out.1 _) HGN.out.1 _)
      rw [← hU]
      clear hU s0 s1 gf0 gf1 gl gc0 gc1
      by_cases cl2 : 0 < L.length
      · have cl3 : (0 : Int) < L.length := by omega
        have hm := modZ_bd a4 (m := (L.length : Int)) (by omega)
        obtain ⟨ii, hii⟩ : ∃ ii : Nat, modZ a4 (L.length : Int) = (ii : Int) := ⟨(modZ a4 (L.length : Int)).toNat, by omega⟩
        have HM := Lib.hid (fun wz => Mod_any a4 (L.length : Int) (by omega) (by omega) HO4.out wz)
        rw [hii] at HM hm
        clear hii
        have hil : ii < L.length := by omega
        obtain ⟨bl, ol, rfl, hcl, hlo⟩ := ird_at (HLR.out.ext HUX.out) ii hil
        have hbl := World.block_lt_of_cell? U _ hcl
        have hiz : (ii : Int) < L.length := by omega
        have HOL := Lib.hid hlo
        clear hlo hm
        generalize L[ii] = lo at *
        obtain ⟨g0, -, hp⟩ := HE.out U HUX.out
        obtain ⟨hac, -, pl⟩ := Rg.cells_of HUA.out
        have q1 := hac 1
        have q4 := hac 4
        clear hac
        replace q1 : U.cell? ⟨pa, 1, none⟩ = some (.int .i64 a1) := q1
        replace q4 : U.cell? ⟨pa, 4, none⟩ = some (.int .i64 a4) := q4
        go_upto_region 7 with (fail)
        refine Rr.wp_region ((List.range 14).map (fun i => (i, .y))) (fun _ => (.cells #[] 29, Rg.ptr)) (by kernel_rfl) (by kernel_rfl) ?_
        simp only [List.range, List.range.loop, List.map_cons, List.map_nil]
        (refine Rr.wr_y (by simp only [List.getElem?_toArray, List.getElem?_cons_succ, List.getElem?_cons_zero]; rfl) (by rfl) ?_
         apply Exists.intro
         refine ⟨fun wz hw _ => ?_, ?_⟩
         · have hcz := hw.cells.1
           go_simp
           (with_reducible exact Rg.up_value)
         simp only [Act.put, List.setIfInBounds_toArray, List.set_cons_zero, List.set_cons_succ])
        (refine Rr.wr_y (by simp only [List.getElem?_toArray, List.getElem?_cons_succ, List.getElem?_cons_zero]; rfl) (by rfl) ?_
         apply Exists.intro
         refine ⟨fun wz hw _ => ?_, ?_⟩
         · have hcz := hw.cells.1
           go_simp
           (with_reducible exact Rg.up_value)
         simp only [Act.put, List.setIfInBounds_toArray, List.set_cons_zero, List.set_cons_succ])
        (refine Rr.wr_y (by simp only [List.getElem?_toArray, List.getElem?_cons_succ, List.getElem?_cons_zero]; rfl) (by rfl) ?_
         apply Exists.intro
         refine ⟨fun wz hw _ => ?_, ?_⟩
         · have hcz := hw.cells.1
           go_simp
           (with_reducible exact Rg.up_value)
         simp only [Act.put, List.setIfInBounds_toArray, List.set_cons_zero, List.set_cons_succ])
        (refine Rr.wr_y (by simp only [List.getElem?_toArray, List.getElem?_cons_succ, List.getElem?_cons_zero]; rfl) (by rfl) ?_
         apply Exists.intro
         refine ⟨fun wz hw _ => ?_, ?_⟩
         · have hcz := hw.cells.1
           go_simp
           (with_reducible exact Rg.up_value)
         simp only [Act.put, List.setIfInBounds_toArray, List.set_cons_zero, List.set_cons_succ])
        (refine Rr.wr_y (by simp only [List.getElem?_toArray, List.getElem?_cons_succ, List.getElem?_cons_zero]; rfl) (by rfl) ?_
         apply Exists.intro
         refine ⟨fun wz hw _ => ?_, ?_⟩
         · have hcz := hw.cells.1
           go_simp
           (with_reducible exact Rg.up_value)
         simp only [Act.put, List.setIfInBounds_toArray, List.set_cons_zero, List.set_cons_succ])
        (refine Rr.wr_y (by simp only [List.getElem?_toArray, List.getElem?_cons_succ, List.getElem?_cons_zero]; rfl) (by rfl) ?_
         apply Exists.intro
         refine ⟨fun wz hw _ => ?_, ?_⟩
         · have hcz := hw.cells.1
           go_simp
           (with_reducible exact Rg.up_value)
         simp only [Act.put, List.setIfInBounds_toArray, List.set_cons_zero, List.set_cons_succ])
        (refine Rr.wr_y (by simp only [List.getElem?_toArray, List.getElem?_cons_succ, List.getElem?_cons_zero]; rfl) (by rfl) ?_
         apply Exists.intro
         refine ⟨fun wz hw _ => ?_, ?_⟩
         · have hcz := hw.cells.1
           go_simp
           (with_reducible exact Rg.up_value)
         simp only [Act.put, List.setIfInBounds_toArray, List.set_cons_zero, List.set_cons_succ])
        (refine Rr.wr_y (by simp only [List.getElem?_toArray, List.getElem?_cons_succ, List.getElem?_cons_zero]; rfl) (by rfl) ?_
         apply Exists.intro
         refine ⟨fun wz hw _ => ?_, ?_⟩
         · have hcz := hw.cells.1
           go_simp
           (with_reducible exact Rg.up_value)
         simp only [Act.put, List.setIfInBounds_toArray, List.set_cons_zero, List.set_cons_succ])
        (refine Rr.wr_y (by simp only [List.getElem?_toArray, List.getElem?_cons_succ, List.getElem?_cons_zero]; rfl) (by rfl) ?_
         apply Exists.intro
         refine ⟨fun wz hw _ => ?_, ?_⟩
         · have hcz := hw.cells.1
           go_simp
           (with_reducible exact Rg.up_value)
         simp only [Act.put, List.setIfInBounds_toArray, List.set_cons_zero, List.set_cons_succ])
        (refine Rr.wr_y (by simp only [List.getElem?_toArray, List.getElem?_cons_succ, List.getElem?_cons_zero]; rfl) (by rfl) ?_
         apply Exists.intro
         refine ⟨fun wz hw _ => ?_, ?_⟩
         · have hcz := hw.cells.1
           go_simp
           (with_reducible exact Rg.up_value)
         simp only [Act.put, List.setIfInBounds_toArray, List.set_cons_zero, List.set_cons_succ])
        (refine Rr.wr_y (by simp only [List.getElem?_toArray, List.getElem?_cons_succ, List.getElem?_cons_zero]; rfl) (by rfl) ?_
         apply Exists.intro
         refine ⟨fun wz hw _ => ?_, ?_⟩
         · have hcz := hw.cells.1
           go_simp
           (with_reducible exact Rg.up_value)
         simp only [Act.put, List.setIfInBounds_toArray, List.set_cons_zero, List.set_cons_succ])
        (refine Rr.wr_y (by simp only [List.getElem?_toArray, List.getElem?_cons_succ, List.getElem?_cons_zero]; rfl) (by rfl) ?_
         apply Exists.intro
         refine ⟨fun wz hw _ => ?_, ?_⟩
         · have hcz := hw.cells.1
           go_simp
           apply Rg.up_enter
           (with_reducible refine (HM.out _).mono ?_)
           rintro e w3 ⟨rfl, hb3⟩
           exact ⟨rfl, hb3⟩
         simp only [Act.put, List.setIfInBounds_toArray, List.set_cons_zero, List.set_cons_succ])
        (refine Rr.wr_y (by simp only [List.getElem?_toArray, List.getElem?_cons_succ, List.getElem?_cons_zero]; rfl) (by rfl) ?_
         apply Exists.intro
         refine ⟨fun wz hw _ => ?_, ?_⟩
         · have hcz := hw.cells.1
           go_simp
           (with_reducible exact Rg.up_value)
         simp only [Act.put, List.setIfInBounds_toArray, List.set_cons_zero, List.set_cons_succ])
        (refine Rr.wr_y (by simp only [List.getElem?_toArray, List.getElem?_cons_succ, List.getElem?_cons_zero]; rfl) (by rfl) ?_
         apply Exists.intro
         refine ⟨fun wz hw _ => ?_, ?_⟩
         · have hcz := hw.cells.1
           go_simp
           (with_reducible exact Rg.up_value)
         simp only [Act.put, List.setIfInBounds_toArray, List.set_cons_zero, List.set_cons_succ])
        refine Rr.wr_nil ?_
        intro wy hy hh
        simp only [List.length_cons, List.length_nil, List.drop_succ_cons, List.drop_zero, Nat.reduceAdd]
        clear hh
        have HYG := Lib.hid (keep_heap hy HUG.out); have HYA := Lib.hid (keep_heap hy HUA.out); have HYR := Lib.hid (keep_heap hy HUR.out); have HYX := Lib.hid (HUX.out.trans hy)
        clear hy q1 q4 g0 hp pl hcl hbl
        obtain ⟨gc, gf, gl⟩ := Rg.cells_of HYG.out
        have gf2 := gf 2
        have gc2 : wy.cell? ⟨pg, 2, none⟩ = some (.int .i64 a4) := gc 2
        clear gc gf
        go_upto_region 8 with (fail)
        obtain ⟨V, hV⟩ : ∃ V, V = wy.setCell ⟨pg, 2, none⟩ (.int .i64 lo) := ⟨_, rfl⟩
        have HVG : Hid (V.heap[pg]? = some (.cells #[.int .i64 da, .int .i64 db', .int .i64 lo, .string nm, .int .i64 a6, .int .i64 a7] 23)) := Lib.hid (by rw [hV]; exact heap_setCell_same wy pg 2 _ 23 _ HYG.out)
        have HVA : Hid (V.heap[pa]? = some (.cells #[.int .i64 a0, .int .i64 a1, .int .i64 a2, .int .i64 a3, .int .i64 a4, .int .i64 a5, .int .i64 a6, .int .i64 a7] 76)) := Lib.hid (by rw [hV]; exact (heap_setCell_other wy _ pa _ (by have := HGN.out; show pa ≠ pg; omega)).trans HYA.out)
        have HVR : Hid (V.heap[pr]? = some (.cells #[.int .i64 0, .int .i64 0, .int .i64 0, .string ⟨#[]⟩, .int .i64 0, .int .i64 0] 23)) := Lib.hid (by rw [hV]; exact (heap_setCell_other wy _ pr _ (by have := HGN.out; show pr ≠ pg; omega)).trans HYR.out)
        have HVX : Hid (Ext w V) := Lib.hid (by rw [hV]; exact Below.setCell HYX.out HGN.out.1 _)
        rw [← hV]
        clear hV gf2 gl gc2
        have ha := cell_of_row V pa 1 _ _ _ HVA.out
        go_wp2_with (first
          | (refine wpList_load_row (hgd := rfl) 23 (.tmp 5) rfl pg (by rfl) 23 _ _ _ HVG.out Tryz.underlying23 rfl (by kernel_rfl) ?_)
          | (refine wpList_store_row (hgd := rfl) 23 (.tmp 4) (.tmp 78) rfl pr (by rfl) #[.int .i64 da, .int .i64 db', .int .i64 lo, .string nm, .int .i64 a6, .int .i64 a7] (by rfl) _ 23 HVR.out (by rfl) (by kernel_rfl) (by simp [Value.oneCell']) ?_))
        have hend := setRow_heap V pr _ #[.int .i64 da, .int .i64 db', .int .i64 lo, .string nm, .int .i64 a6, .int .i64 a7] 23 _ HVR.out
        refine bodyPost_ret (v := Gd.v ⟨da, db', lo, nm, a6, a7⟩) (results_cell_row Tryz.results19 _ _ pr 23 _ _ _ (by rfl) hend Tryz.underlying23 rfl (by kernel_rfl)) rfl ⟨⟨da, db', lo, nm, a6, a7⟩, rfl, ⟨HOD.out.1, HOD.out.2, HOL.out, HNO.out, HOK.out.2.2.2.1, HOK.out.2.2.2.2⟩, below_setRow HVX.out HPP.out.2.1 _⟩
      · obtain ⟨g0, -, hp⟩ := HE.out U HUX.out
        have q1 := cell_of_row U pa 1 _ _ _ HUA.out
        have pl := Rg.lt_of_heap HUA.out
        obtain ⟨V, hV⟩ : ∃ V, V = U := ⟨_, rfl⟩
        have HVG := HUG; have HVA := HUA; have HVR := HUR; have HVX := HUX
        have cl3 : ¬ (0 : Int) < L.length := by omega
        clear cl2
        go_upto_region 8 with (fail)
        rw [← hV] at HVG HVA HVR HVX ⊢
        clear hV q1 pl g0 hp
        have ha := cell_of_row V pa 1 _ _ _ HVA.out
        go_wp2_with (first
          | (refine wpList_load_row (hgd := rfl) 23 (.tmp 5) rfl pg (by rfl) 23 _ _ _ HVG.out Tryz.underlying23 rfl (by kernel_rfl) ?_)
          | (refine wpList_store_row (hgd := rfl) 23 (.tmp 4) (.tmp 78) rfl pr (by rfl) #[.int .i64 da, .int .i64 db', .int .i64 a4, .string nm, .int .i64 a6, .int .i64 a7] (by rfl) _ 23 HVR.out (by rfl) (by kernel_rfl) (by simp [Value.oneCell']) ?_))
        have hend := setRow_heap V pr _ #[.int .i64 da, .int .i64 db', .int .i64 a4, .string nm, .int .i64 a6, .int .i64 a7] 23 _ HVR.out
        refine bodyPost_ret (v := Gd.v ⟨da, db', a4, nm, a6, a7⟩) (results_cell_row Tryz.results19 _ _ pr 23 _ _ _ (by rfl) hend Tryz.underlying23 rfl (by kernel_rfl)) rfl ⟨⟨da, db', a4, nm, a6, a7⟩, rfl, ⟨HOD.out.1, HOD.out.2, HOK.out.2.2.1, HNO.out, HOK.out.2.2.2.1, HOK.out.2.2.2.2⟩, below_setRow HVX.out HPP.out.2.1 _⟩
    · have q1 := cell_of_row W pa 1 _ _ _ HA.out
      have pl := Rg.lt_of_heap HA.out
      obtain ⟨-, g2, hp⟩ := HE.out W HX.out
      obtain ⟨U, hU⟩ : ∃ U, U = W := ⟨_, rfl⟩
      have HUG := HG; have HUA := HA; have HUR := HR; have HUX := HX
      have cd3 : ¬ (0 : Int) < D.length := by omega
      clear cd2
      go_upto_region 6 with (fail)
      rw [← hU] at HUG HUA HUR HUX ⊢
      clear hU q1 pl g2 hp cd3
      by_cases cl2 : 0 < L.length
      · have cl3 : (0 : Int) < L.length := by omega
        have hm := modZ_bd a4 (m := (L.length : Int)) (by omega)
        obtain ⟨ii, hii⟩ : ∃ ii : Nat, modZ a4 (L.length : Int) = (ii : Int) := ⟨(modZ a4 (L.length : Int)).toNat, by omega⟩
        have HM := Lib.hid (fun wz => Mod_any a4 (L.length : Int) (by omega) (by omega) HO4.out wz)
        rw [hii] at HM hm
        clear hii
        have hil : ii < L.length := by omega
        obtain ⟨bl, ol, rfl, hcl, hlo⟩ := ird_at (HLR.out.ext HUX.out) ii hil
        have hbl := World.block_lt_of_cell? U _ hcl
        have hiz : (ii : Int) < L.length := by omega
        have HOL := Lib.hid hlo
        clear hlo hm
        generalize L[ii] = lo at *
        obtain ⟨g0, -, hp⟩ := HE.out U HUX.out
        obtain ⟨hac, -, pl⟩ := Rg.cells_of HUA.out
        have q1 := hac 1
        have q4 := hac 4
        clear hac
        replace q1 : U.cell? ⟨pa, 1, none⟩ = some (.int .i64 a1) := q1
        replace q4 : U.cell? ⟨pa, 4, none⟩ = some (.int .i64 a4) := q4
        go_upto_region 7 with (fail)
        refine Rr.wp_region ((List.range 14).map (fun i => (i, .y))) (fun _ => (.cells #[] 29, Rg.ptr)) (by kernel_rfl) (by kernel_rfl) ?_
        simp only [List.range, List.range.loop, List.map_cons, List.map_nil]
        (refine Rr.wr_y (by simp only [List.getElem?_toArray, List.getElem?_cons_succ, List.getElem?_cons_zero]; rfl) (by rfl) ?_
         apply Exists.intro
         refine ⟨fun wz hw _ => ?_, ?_⟩
         · have hcz := hw.cells.1
           go_simp
           (with_reducible exact Rg.up_value)
         simp only [Act.put, List.setIfInBounds_toArray, List.set_cons_zero, List.set_cons_succ])
        (refine Rr.wr_y (by simp only [List.getElem?_toArray, List.getElem?_cons_succ, List.getElem?_cons_zero]; rfl) (by rfl) ?_
         apply Exists.intro
         refine ⟨fun wz hw _ => ?_, ?_⟩
         · have hcz := hw.cells.1
           go_simp
           (with_reducible exact Rg.up_value)
         simp only [Act.put, List.setIfInBounds_toArray, List.set_cons_zero, List.set_cons_succ])
        (refine Rr.wr_y (by simp only [List.getElem?_toArray, List.getElem?_cons_succ, List.getElem?_cons_zero]; rfl) (by rfl) ?_
         apply Exists.intro
         refine ⟨fun wz hw _ => ?_, ?_⟩
         · have hcz := hw.cells.1
           go_simp
           (with_reducible exact Rg.up_value)
         simp only [Act.put, List.setIfInBounds_toArray, List.set_cons_zero, List.set_cons_succ])
        (refine Rr.wr_y (by simp only [List.getElem?_toArray, List.getElem?_cons_succ, List.getElem?_cons_zero]; rfl) (by rfl) ?_
         apply Exists.intro
         refine ⟨fun wz hw _ => ?_, ?_⟩
         · have hcz := hw.cells.1
           go_simp
           (with_reducible exact Rg.up_value)
         simp only [Act.put, List.setIfInBounds_toArray, List.set_cons_zero, List.set_cons_succ])
        (refine Rr.wr_y (by simp only [List.getElem?_toArray, List.getElem?_cons_succ, List.getElem?_cons_zero]; rfl) (by rfl) ?_
         apply Exists.intro
         refine ⟨fun wz hw _ => ?_, ?_⟩
         · have hcz := hw.cells.1
           go_simp
           (with_reducible exact Rg.up_value)
         simp only [Act.put, List.setIfInBounds_toArray, List.set_cons_zero, List.set_cons_succ])
        (refine Rr.wr_y (by simp only [List.getElem?_toArray, List.getElem?_cons_succ, List.getElem?_cons_zero]; rfl) (by rfl) ?_
         apply Exists.intro
         refine ⟨fun wz hw _ => ?_, ?_⟩
         · have hcz := hw.cells.1
           go_simp
           (with_reducible exact Rg.up_value)
         simp only [Act.put, List.setIfInBounds_toArray, List.set_cons_zero, List.set_cons_succ])
        (refine Rr.wr_y (by simp only [List.getElem?_toArray, List.getElem?_cons_succ, List.getElem?_cons_zero]; rfl) (by rfl) ?_
         apply Exists.intro
         refine ⟨fun wz hw _ => ?_, ?_⟩
         · have hcz := hw.cells.1
           go_simp
           (with_reducible exact Rg.up_value)
         simp only [Act.put, List.setIfInBounds_toArray, List.set_cons_zero, List.set_cons_succ])
        (refine Rr.wr_y (by simp only [List.getElem?_toArray, List.getElem?_cons_succ, List.getElem?_cons_zero]; rfl) (by rfl) ?_
         apply Exists.intro
         refine ⟨fun wz hw _ => ?_, ?_⟩
         · have hcz := hw.cells.1
           go_simp
           (with_reducible exact Rg.up_value)
         simp only [Act.put, List.setIfInBounds_toArray, List.set_cons_zero, List.set_cons_succ])
        (refine Rr.wr_y (by simp only [List.getElem?_toArray, List.getElem?_cons_succ, List.getElem?_cons_zero]; rfl) (by rfl) ?_
         apply Exists.intro
         refine ⟨fun wz hw _ => ?_, ?_⟩
         · have hcz := hw.cells.1
           go_simp
           (with_reducible exact Rg.up_value)
         simp only [Act.put, List.setIfInBounds_toArray, List.set_cons_zero, List.set_cons_succ])
        (refine Rr.wr_y (by simp only [List.getElem?_toArray, List.getElem?_cons_succ, List.getElem?_cons_zero]; rfl) (by rfl) ?_
         apply Exists.intro
         refine ⟨fun wz hw _ => ?_, ?_⟩
         · have hcz := hw.cells.1
           go_simp
           (with_reducible exact Rg.up_value)
         simp only [Act.put, List.setIfInBounds_toArray, List.set_cons_zero, List.set_cons_succ])
        (refine Rr.wr_y (by simp only [List.getElem?_toArray, List.getElem?_cons_succ, List.getElem?_cons_zero]; rfl) (by rfl) ?_
         apply Exists.intro
         refine ⟨fun wz hw _ => ?_, ?_⟩
         · have hcz := hw.cells.1
           go_simp
           (with_reducible exact Rg.up_value)
         simp only [Act.put, List.setIfInBounds_toArray, List.set_cons_zero, List.set_cons_succ])
        (refine Rr.wr_y (by simp only [List.getElem?_toArray, List.getElem?_cons_succ, List.getElem?_cons_zero]; rfl) (by rfl) ?_
         apply Exists.intro
         refine ⟨fun wz hw _ => ?_, ?_⟩
         · have hcz := hw.cells.1
           go_simp
           apply Rg.up_enter
           (with_reducible refine (HM.out _).mono ?_)
           rintro e w3 ⟨rfl, hb3⟩
           exact ⟨rfl, hb3⟩
         simp only [Act.put, List.setIfInBounds_toArray, List.set_cons_zero, List.set_cons_succ])
        (refine Rr.wr_y (by simp only [List.getElem?_toArray, List.getElem?_cons_succ, List.getElem?_cons_zero]; rfl) (by rfl) ?_
         apply Exists.intro
         refine ⟨fun wz hw _ => ?_, ?_⟩
         · have hcz := hw.cells.1
           go_simp
           (with_reducible exact Rg.up_value)
         simp only [Act.put, List.setIfInBounds_toArray, List.set_cons_zero, List.set_cons_succ])
        (refine Rr.wr_y (by simp only [List.getElem?_toArray, List.getElem?_cons_succ, List.getElem?_cons_zero]; rfl) (by rfl) ?_
         apply Exists.intro
         refine ⟨fun wz hw _ => ?_, ?_⟩
         · have hcz := hw.cells.1
           go_simp
           (with_reducible exact Rg.up_value)
         simp only [Act.put, List.setIfInBounds_toArray, List.set_cons_zero, List.set_cons_succ])
        refine Rr.wr_nil ?_
        intro wy hy hh
        simp only [List.length_cons, List.length_nil, List.drop_succ_cons, List.drop_zero, Nat.reduceAdd]
        clear hh
        have HYG := Lib.hid (keep_heap hy HUG.out); have HYA := Lib.hid (keep_heap hy HUA.out); have HYR := Lib.hid (keep_heap hy HUR.out); have HYX := Lib.hid (HUX.out.trans hy)
        clear hy q1 q4 g0 hp pl hcl hbl
        obtain ⟨gc, gf, gl⟩ := Rg.cells_of HYG.out
        have gf2 := gf 2
        have gc2 : wy.cell? ⟨pg, 2, none⟩ = some (.int .i64 a4) := gc 2
        clear gc gf
        go_upto_region 8 with (fail)
        obtain ⟨V, hV⟩ : ∃ V, V = wy.setCell ⟨pg, 2, none⟩ (.int .i64 lo) := ⟨_, rfl⟩
        have HVG : Hid (V.heap[pg]? = some (.cells #[.int .i64 a2, .int .i64 a3, .int .i64 lo, .string nm, .int .i64 a6, .int .i64 a7] 23)) := Lib.hid (by rw [hV]; exact heap_setCell_same wy pg 2 _ 23 _ HYG.out)
        have HVA : Hid (V.heap[pa]? = some (.cells #[.int .i64 a0, .int .i64 a1, .int .i64 a2, .int .i64 a3, .int .i64 a4, .int .i64 a5, .int .i64 a6, .int .i64 a7] 76)) := Lib.hid (by rw [hV]; exact (heap_setCell_other wy _ pa _ (by have := HGN.out; show pa ≠ pg; omega)).trans HYA.out)
        have HVR : Hid (V.heap[pr]? = some (.cells #[.int .i64 0, .int .i64 0, .int .i64 0, .string ⟨#[]⟩, .int .i64 0, .int .i64 0] 23)) := Lib.hid (by rw [hV]; exact (heap_setCell_other wy _ pr _ (by have := HGN.out; show pr ≠ pg; omega)).trans HYR.out)
        have HVX : Hid (Ext w V) := Lib.hid (by rw [hV]; exact Below.setCell HYX.out HGN.out.1 _)
        rw [← hV]
        clear hV gf2 gl gc2
        have ha := cell_of_row V pa 1 _ _ _ HVA.out
        go_wp2_with (first
          | (refine wpList_load_row (hgd := rfl) 23 (.tmp 5) rfl pg (by rfl) 23 _ _ _ HVG.out Tryz.underlying23 rfl (by kernel_rfl) ?_)
          | (refine wpList_store_row (hgd := rfl) 23 (.tmp 4) (.tmp 78) rfl pr (by rfl) #[.int .i64 a2, .int .i64 a3, .int .i64 lo, .string nm, .int .i64 a6, .int .i64 a7] (by rfl) _ 23 HVR.out (by rfl) (by kernel_rfl) (by simp [Value.oneCell']) ?_))
        have hend := setRow_heap V pr _ #[.int .i64 a2, .int .i64 a3, .int .i64 lo, .string nm, .int .i64 a6, .int .i64 a7] 23 _ HVR.out
        refine bodyPost_ret (v := Gd.v ⟨a2, a3, lo, nm, a6, a7⟩) (results_cell_row Tryz.results19 _ _ pr 23 _ _ _ (by rfl) hend Tryz.underlying23 rfl (by kernel_rfl)) rfl ⟨⟨a2, a3, lo, nm, a6, a7⟩, rfl, ⟨HOK.out.1, HOK.out.2.1, HOL.out, HNO.out, HOK.out.2.2.2.1, HOK.out.2.2.2.2⟩, below_setRow HVX.out HPP.out.2.1 _⟩
      · obtain ⟨g0, -, hp⟩ := HE.out U HUX.out
        have q1 := cell_of_row U pa 1 _ _ _ HUA.out
        have pl := Rg.lt_of_heap HUA.out
        obtain ⟨V, hV⟩ : ∃ V, V = U := ⟨_, rfl⟩
        have HVG := HUG; have HVA := HUA; have HVR := HUR; have HVX := HUX
        have cl3 : ¬ (0 : Int) < L.length := by omega
        clear cl2
        go_upto_region 8 with (fail)
        rw [← hV] at HVG HVA HVR HVX ⊢
        clear hV q1 pl g0 hp
        have ha := cell_of_row V pa 1 _ _ _ HVA.out
        go_wp2_with (first
          | (refine wpList_load_row (hgd := rfl) 23 (.tmp 5) rfl pg (by rfl) 23 _ _ _ HVG.out Tryz.underlying23 rfl (by kernel_rfl) ?_)
          | (refine wpList_store_row (hgd := rfl) 23 (.tmp 4) (.tmp 78) rfl pr (by rfl) #[.int .i64 a2, .int .i64 a3, .int .i64 a4, .string nm, .int .i64 a6, .int .i64 a7] (by rfl) _ 23 HVR.out (by rfl) (by kernel_rfl) (by simp [Value.oneCell']) ?_))
        have hend := setRow_heap V pr _ #[.int .i64 a2, .int .i64 a3, .int .i64 a4, .string nm, .int .i64 a6, .int .i64 a7] 23 _ HVR.out
        refine bodyPost_ret (v := Gd.v ⟨a2, a3, a4, nm, a6, a7⟩) (results_cell_row Tryz.results19 _ _ pr 23 _ _ _ (by rfl) hend Tryz.underlying23 rfl (by kernel_rfl)) rfl ⟨⟨a2, a3, a4, nm, a6, a7⟩, rfl, ⟨HOK.out.1, HOK.out.2.1, HOK.out.2.2.1, HNO.out, HOK.out.2.2.2.1, HOK.out.2.2.2.2⟩, below_setRow HVX.out HPP.out.2.1 _⟩
  · have q1 := cell_of_row W pa 1 _ _ _ HA.out
    have pl := Rg.lt_of_heap HA.out
    obtain ⟨V, hV⟩ : ∃ V, V = W := ⟨_, rfl⟩
    have HVG := HG; have HVA := HA; have HVR := HR; have HVX := HX
    go_upto_region 8 with (fail)
    rw [← hV] at HVG HVA HVR HVX ⊢
    clear hV q1 pl
    have ha := cell_of_row V pa 1 _ _ _ HVA.out
    go_wp2_with (first
      | (refine wpList_load_row (hgd := rfl) 23 (.tmp 5) rfl pg (by rfl) 23 _ _ _ HVG.out Tryz.underlying23 rfl (by kernel_rfl) ?_)
      | (refine wpList_store_row (hgd := rfl) 23 (.tmp 4) (.tmp 78) rfl pr (by rfl) #[.int .i64 a2, .int .i64 a3, .int .i64 a4, .string nm, .int .i64 a6, .int .i64 a7] (by rfl) _ 23 HVR.out (by rfl) (by kernel_rfl) (by simp [Value.oneCell']) ?_))
    have hend := setRow_heap V pr _ #[.int .i64 a2, .int .i64 a3, .int .i64 a4, .string nm, .int .i64 a6, .int .i64 a7] 23 _ HVR.out
    refine bodyPost_ret (v := Gd.v ⟨a2, a3, a4, nm, a6, a7⟩) (results_cell_row Tryz.results19 _ _ pr 23 _ _ _ (by rfl) hend Tryz.underlying23 rfl (by kernel_rfl)) rfl ⟨⟨a2, a3, a4, nm, a6, a7⟩, rfl, ⟨HOK.out.1, HOK.out.2.1, HOK.out.2.2.1, HNO.out, HOK.out.2.2.2.1, HOK.out.2.2.2.2⟩, below_setRow HVX.out HPP.out.2.1 _⟩
end Go.Proofs.YtnplnfkmcfalhaaGreatDoor
