/-
  The reference's Bent. Conditions: a tree of at most 1000 parts, whose lists have no or at least two elements.
-/
import Derived.Test.YtgkdeknfmmgbdaaBeB
namespace Go.Proofs.Ytgkdeknfmmgbdaa
set_option linter.unusedVariables false
set_option linter.unusedSimpArgs false
open Go.RowKit

set_option maxRecDepth 100000 in
set_option maxHeartbeats 2000000 in
theorem Bent_any (t : Ex) (hp : t.parts ≤ 1000) (h2 : twoB t = true) (w : World) (v : Value) (q0 q1 : Int) (b0 : -9223372036854775808 ≤ q0 ∧ q0 ≤ 9223372036854775807) (b1 : -9223372036854775808 ≤ q1 ∧ q1 ≤ 9223372036854775807) (hv : Rd All w t v) :
    Calls Try.prog 16 #[v, .agg #[.int .i64 q0, .int .i64 q1]] w fun e w' => ∃ u, e = .returned u ∧ Ext w w' ∧ ∃ t', Rd All w' t' u ∧ t'.parts ≤ t.parts + 1 := by
  have hp1 : 1 ≤ t.parts := by cases t; rw [Ex.parts]; omega
  have HPA := Lib.hid (fun W (hW : Ext w W) => rparts_any t.depth t (Nat.le_refl _) (by omega) W v (hv.ext hW))
  have HMO := Lib.hid (fun W => Mod_x q0 t.parts (by omega) (by omega) b0.1 b0.2 W)
  have hmb := modZ_bd q0 (m := t.parts) (by omega)
  obtain ⟨M, hM⟩ : ∃ M, M = modZ q0 t.parts := ⟨_, rfl⟩
  rw [← hM] at HMO hmb
  have HBE := Lib.hid (fun W (hW : Ext (((w.alloc (.cells #[v] 29)).alloc (.cells #[v] 29)).alloc (.cells #[v] 29)) W) => hW.size)
  have HB : Hid (∀ W p4, Ext w W → w.heap.size ≤ p4 → p4 < W.heap.size → Calls Try.prog 42 #[v, .int .i64 M, .int .i64 q1] W fun e w' => ∃ u, e = .returned u ∧ Ext W w' ∧ ∃ t', Rd (fun b => b ≠ p4) w' t' u ∧ t'.parts ≤ t.parts + 1) := Lib.hid fun W p4 hW h4 h5 =>
    bend_any (fun b => b ≠ p4) t.depth t (Nat.le_refl _) hp h2 W v M q1 ⟨by omega, by omega⟩ b1 (Rd.ext hW (Rd.frame (S := fun b => All b ∧ b < w.heap.size) (fun _ _ _ _ => rfl) (fun b hb => by have := hb.2; omega) _ _ (Rd.alive _ _ hv))) (fun b hb => by omega)
  obtain ⟨op, n1, n2, nm, base, len, cap, rfl⟩ := hv.form
  clear hM hv HBE b0 b1 hp h2 hp1
  generalize hP : t.parts = P at *
  clear hP
  go_enter Try.func16, Try.ntmps16
  obtain ⟨W1, hW1⟩ : ∃ W1, W1 = ((w.alloc (.cells #[.string op, .int .i64 n1, .int .i64 n2, .string nm, .slice base len cap] 29)).alloc (.cells #[.int .i64 q0, .int .i64 q1] 23)).alloc (.cells zero29 29) := ⟨_, rfl⟩
  have hx1 : Ext w W1 := by rw [hW1]; exact Ext.alloc (Ext.alloc (Ext.alloc (Ext.refl _) _) _) _
  have h2 : W1.heap[w.heap.size]? = some (.cells #[.string op, .int .i64 n1, .int .i64 n2, .string nm, .slice base len cap] 29) := by rw [hW1, Below.heap_alloc _ _ _ (by simp; omega), Below.heap_alloc _ _ _ (by simp)]; exact block_new rfl
  have h3 : W1.heap[w.heap.size + 1]? = some (.cells #[.int .i64 q0, .int .i64 q1] 23) := by rw [hW1, Below.heap_alloc _ _ _ (by simp)]; exact block_new (by simp)
  have h4 : W1.heap[w.heap.size + 1 + 1]? = some (.cells zero29 29) := by rw [hW1]; exact block_new (by simp)
  go_upto_region 1 with (fail)
  rw [← hW1]
  clear hW1
  obtain ⟨p2, hp2⟩ : ∃ p, p = w.heap.size := ⟨_, rfl⟩
  obtain ⟨p3, hp3⟩ : ∃ p, p = w.heap.size + 1 := ⟨_, rfl⟩
  obtain ⟨p4, hp4⟩ : ∃ p, p = w.heap.size + 1 + 1 := ⟨_, rfl⟩
  have HP4 := Lib.hid (show w.heap.size ≤ p4 by omega)
  rw [← hp4] at h4 ⊢
  rw [← hp3] at h3 ⊢
  rw [← hp2] at h2 ⊢
  clear hp2 hp3 hp4
  have H2 := Lib.hid h2; have H3 := Lib.hid h3; have H4 := Lib.hid h4; have HX1 := Lib.hid hx1
  obtain ⟨c3, -, l3⟩ := Rg.cells_of h3
  have a0 : W1.cell? ⟨p3, 0, none⟩ = some (.int .i64 q0) := c3 0
  clear c3 h3 h4 hx1
  refine Rr.wp_region ((List.range 5).map (fun i => (i, .y))) (fun _ => (.cells #[] 29, Rg.ptr)) (by kernel_rfl) (by kernel_rfl) ?_
  simp only [List.range, List.range.loop, List.map_cons, List.map_nil]
  (refine Rr.wr_y (by simp only [List.getElem?_toArray, List.getElem?_cons_succ, List.getElem?_cons_zero]; rfl) (by rfl) ?_
   apply Exists.intro
   refine ⟨fun wz hw _ => ?_, ?_⟩
   · have hcz := hw.cells.1
     go_simp
     (with_reducible exact Rg.up_value)
   simp only [Act.put, List.setIfInBounds_toArray, List.set_cons_zero, List.set_cons_succ])
  (refine Rr.wr_y (by simp only [List.getElem?_toArray, List.getElem?_cons_succ, List.getElem?_cons_zero]; rfl) (by rfl) ?_
   apply Exists.intro
   refine ⟨fun wz hw _ => ?_, ?_⟩
   · have hcz := hw.cells.1
     go_simp
     (with_reducible exact Rg.up_value)
   simp only [Act.put, List.setIfInBounds_toArray, List.set_cons_zero, List.set_cons_succ])
  (refine Rr.wr_y (by simp only [List.getElem?_toArray, List.getElem?_cons_succ, List.getElem?_cons_zero]; rfl) (by rfl) ?_
   apply Exists.intro
   refine ⟨fun wz hw _ => ?_, ?_⟩
   · have hcz := hw.cells.1
     exact up_row (by rfl) ((hw.block _ (Rg.lt_of_heap h2)).trans h2) Try.underlying29 (by kernel_rfl)
   simp only [Act.put, List.setIfInBounds_toArray, List.set_cons_zero, List.set_cons_succ])
  (refine Rr.wr_y (by simp only [List.getElem?_toArray, List.getElem?_cons_succ, List.getElem?_cons_zero]; rfl) (by rfl) ?_
   apply Exists.intro
   refine ⟨fun wz hw _ => ?_, ?_⟩
   · have hcz := hw.cells.1
     go_simp
     apply Rg.up_enter
     (with_reducible refine (HPA.out _ (HX1.out.trans hw)).mono ?_)
     rintro e w3 ⟨rfl, hb3⟩
     exact ⟨rfl, hb3⟩
   simp only [Act.put, List.setIfInBounds_toArray, List.set_cons_zero, List.set_cons_succ])
  (refine Rr.wr_y (by simp only [List.getElem?_toArray, List.getElem?_cons_succ, List.getElem?_cons_zero]; rfl) (by rfl) ?_
   apply Exists.intro
   refine ⟨fun wz hw _ => ?_, ?_⟩
   · have hcz := hw.cells.1
     go_simp
     apply Rg.up_enter
     (with_reducible refine (HMO.out _).mono ?_)
     rintro e w3 ⟨rfl, hb3⟩
     exact ⟨rfl, hb3⟩
   simp only [Act.put, List.setIfInBounds_toArray, List.set_cons_zero, List.set_cons_succ])
  refine Rr.wr_nil ?_
  intro wy hy hh
  simp only [List.length_cons, List.length_nil, List.drop_succ_cons, List.drop_zero, Nat.reduceAdd]
  clear hh h2 a0 l3
  have HY := Lib.hid hy
  obtain ⟨c2, -, l2⟩ := Rg.cells_of ((hy.block _ (Rg.lt_of_heap H2.out)).trans H2.out)
  obtain ⟨c3, -, l3⟩ := Rg.cells_of ((hy.block _ (Rg.lt_of_heap H3.out)).trans H3.out)
  have y0 : wy.cell? ⟨p2, 0, none⟩ = some (.string op) := c2 0
  have y1 : wy.cell? ⟨p2, 1, none⟩ = some (.int .i64 n1) := c2 1
  have y2 : wy.cell? ⟨p2, 2, none⟩ = some (.int .i64 n2) := c2 2
  have y3 : wy.cell? ⟨p2, 3, none⟩ = some (.string nm) := c2 3
  have y4 : wy.cell? ⟨p2, 4, none⟩ = some (.slice base len cap) := c2 4
  have a1 : wy.cell? ⟨p3, 1, none⟩ = some (.int .i64 q1) := c3 1
  clear c2 c3 hy
  go_wp2_with (go_at_call 42; (with_reducible refine (HB.out _ p4 (HX1.out.trans HY.out) HP4.out (Nat.lt_of_lt_of_le (Rg.lt_of_heap H4.out) HY.out.size)).mono ?_); rintro e w9 ⟨u9, rfl, hx9, t', hr9, hp9⟩; obtain ⟨op', n1', n2', nm', base', len', cap', hform⟩ := hr9.form; subst hform; obtain ⟨c6, f6, l6⟩ := Rg.cells_of ((hx9.block _ (Nat.lt_of_lt_of_le (Rg.lt_of_heap H4.out) HY.out.size)).trans ((HY.out.block _ (Rg.lt_of_heap H4.out)).trans H4.out)))
  have hk : ∀ b, b ≠ p4 → (((((w9.setCell ⟨p4, 0, none⟩ (.string op')).setCell ⟨p4, 1, none⟩ (.int .i64 n1')).setCell ⟨p4, 2, none⟩ (.int .i64 n2')).setCell ⟨p4, 3, none⟩ (.string nm')).setCell ⟨p4, 4, none⟩ (.slice base' len' cap')).heap[b]? = w9.heap[b]? := fun b hb =>
    (heap_setCell_other _ _ _ _ hb).trans ((heap_setCell_other _ _ _ _ hb).trans ((heap_setCell_other _ _ _ _ hb).trans ((heap_setCell_other _ _ _ _ hb).trans (heap_setCell_other _ _ _ _ hb))))
  have hp4 := HP4.out
  have hxe := HX1.out.trans (HY.out.trans hx9)
  have HF := Lib.hid (show Ext w (((((w9.setCell ⟨p4, 0, none⟩ (.string op')).setCell ⟨p4, 1, none⟩ (.int .i64 n1')).setCell ⟨p4, 2, none⟩ (.int .i64 n2')).setCell ⟨p4, 3, none⟩ (.string nm')).setCell ⟨p4, 4, none⟩ (.slice base' len' cap')) ∧ ∃ t', Rd All (((((w9.setCell ⟨p4, 0, none⟩ (.string op')).setCell ⟨p4, 1, none⟩ (.int .i64 n1')).setCell ⟨p4, 2, none⟩ (.int .i64 n2')).setCell ⟨p4, 3, none⟩ (.string nm')).setCell ⟨p4, 4, none⟩ (.slice base' len' cap')) t' (.agg #[.string op', .int .i64 n1', .int .i64 n2', .string nm', .slice base' len' cap']) ∧ t'.parts ≤ P + 1 from ⟨Ext.setCell (Ext.setCell (Ext.setCell (Ext.setCell (Ext.setCell hxe hp4 _) hp4 _) hp4 _) hp4 _) hp4 _, t', Rd.frame (fun b o hs _ => World.cell?_of_block (hk b hs)) (fun _ _ => trivial) _ _ hr9, hp9⟩)
  exact bodyPost_ret (v := .agg #[.string op', .int .i64 n1', .int .i64 n2', .string nm', .slice base' len' cap']) (by simp [results, Try.results16, go_sem, c6, l6]) rfl ⟨_, rfl, HF.out⟩
end Go.Proofs.Ytgkdeknfmmgbdaa
