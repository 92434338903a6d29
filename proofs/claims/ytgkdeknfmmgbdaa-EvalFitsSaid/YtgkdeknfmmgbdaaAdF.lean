/-
  The bid that numbers determine: entry walked. Conditions: the argument's slices read as lists.
-/
import Derived.Test.YtgkdeknfmmgbdaaAdE
import Derived.Deep.CutBlock
namespace Go.Proofs.Ytgkdeknfmmgbdaa
set_option linter.unusedVariables false
set_option linter.unusedSimpArgs false
open Go.RowKit

theorem vlN_snoc (l : List (Int × Int)) (z : Int × Int) : vlN (l ++ [z]) = vlN l ++ [(nameC (modZ z.1 5).toNat, z.2)] := by simp [vlN]
theorem vlN_length (l : List (Int × Int)) : (vlN l).length = l.length := by simp [vlN]
theorem ent_one (a b c d : Int) (x : Sl) : ∀ v ∈ (entC a b c d x).toList, v.oneCell' = true := by
  intro v hv
  simp at hv
  rcases hv with rfl | rfl | rfl | rfl | rfl <;> rfl
theorem efree {w : World} {p : Nat} {a b c d : Int} {x : Sl} (h : w.heap[p]? = some (.cells (entC a b c d x) 70)) : ∀ i, w.frozen? ⟨p, i, none⟩ = false := (Rg.cells_of h).2.1
/-- A slice of values of the call's own reads as values. -/
theorem vrd_row {B : Nat} {w : World} {v : Value} {vs : Vals} (ho : w.ownsRow B 51 2 v vs.length (vs.flatMap cellsP)) (hr : VR vs) (hn : vs.length ≤ 1000000) : VRd All w vs v := PR.vrd ho hr hn

def EL (W1 W2 : World) (pt : Nat) (lot price : Int) (cs : List (Int × Int)) (k : Value) (wr : World) : Prop :=
  ∃ (j : Nat) (x : Sl), k = .int .i64 j ∧ j ≤ cs.length ∧ j ≤ 6 ∧ wr.heap[pt]? = some (.cells (entC 1 lot 0 price x) 70) ∧ wr.ownsRow W2.heap.size 51 2 (slV x) (vlN (cs.take j)).length ((vlN (cs.take j)).flatMap cellsP) ∧ KeepBut pt W2 wr ∧ Ext W1 wr

set_option maxRecDepth 100000 in
set_option maxHeartbeats 4000000 in
theorem entry_any (low high lot price : Int) (vs : List (Int × Int)) (x0 x1 x2 x3 : Sl) (w : World) (h3 : R2d w (slV x3) vs) :
    Calls Try.prog 37 #[.agg (casC x0 low high x1 x2 lot price x3)] w fun e w' => ∃ x, e = .returned (.agg (entC 1 lot 0 price x)) ∧ Ext w w' ∧ VRd All w' (vlN (vs.take 6)) (slV x) := by
  obtain ⟨a3, l3, c3⟩ := x3
  obtain rfl : l3 = vs.length := by obtain ⟨_, _, h, -⟩ := h3; injection h
  have hle3 : (vs.length : Int) ≤ 9223372036854775807 := by obtain ⟨_, _, -, h, -⟩ := h3; omega
  have hrg : ∀ z ∈ vs, (-9223372036854775808 ≤ z.1 ∧ z.1 ≤ 9223372036854775807) ∧ -9223372036854775808 ≤ z.2 ∧ z.2 ≤ 9223372036854775807 := by obtain ⟨_, _, -, -, h, -⟩ := h3; exact h
  have HRG := Lib.hid hrg
  have H3 := Lib.hid h3
  clear h3 hrg
  go_enter Try.func37, Try.ntmps37
  go_upto_region 1 with (fail)
  have hx1 : Ext w ((w.alloc (.cells (casC x0 low high x1 x2 lot price (a3, vs.length, c3)) 77)).alloc (.cells (entC 0 0 0 0 nilS) 70)) := (by with_reducible repeat (first | exact Ext.refl _ | assumption | apply Ext.drewN | apply Ext.drew | apply Ext.alloc | (refine Ext.setCell ?_ (by simp <;> omega) _) | (refine Ext.trans ?_ (by assumption))))
  have hC : ((w.alloc (.cells (casC x0 low high x1 x2 lot price (a3, vs.length, c3)) 77)).alloc (.cells (entC 0 0 0 0 nilS) 70)).heap[w.heap.size]? = some (.cells (casC x0 low high x1 x2 lot price (a3, vs.length, c3)) 77) := by
    rw [Below.heap_alloc _ _ _ (by simp)]; exact block_new rfl
  have hR : ((w.alloc (.cells (casC x0 low high x1 x2 lot price (a3, vs.length, c3)) 77)).alloc (.cells (entC 0 0 0 0 nilS) 70)).heap[w.heap.size + 1]? = some (.cells (entC 0 0 0 0 nilS) 70) := block_new (by simp)
  have hp2 : w.heap.size ≤ w.heap.size + 1 := by omega
  change Code.wp _ _ _ _ ((w.alloc (.cells (casC x0 low high x1 x2 lot price (a3, vs.length, c3)) 77)).alloc (.cells (entC 0 0 0 0 nilS) 70))
  generalize (w.alloc (.cells (casC x0 low high x1 x2 lot price (a3, vs.length, c3)) 77)).alloc (.cells (entC 0 0 0 0 nilS) 70) = W1 at *
  generalize hpr : w.heap.size + 1 = pr at *
  generalize hpc : w.heap.size = pc at *
  have Hpr := Lib.hid hpr
  have Hpc := Lib.hid hpc
  obtain ⟨-, -, -, -, -, q5, q6, q7, ql⟩ := ccells hC
  replace q7 : _ = some (Value.slice a3 vs.length c3) := q7
  have HR := Lib.hid hR
  clear hC hR hpr hpc
  go_upto_region 2 with (fail)
  have hT : (W1.alloc (.cells (entC 1 lot 0 price nilS) 70)).heap[W1.heap.size]? = some (.cells (entC 1 lot 0 price nilS) 70) := block_new rfl
  have hx2 : Ext W1 (W1.alloc (.cells (entC 1 lot 0 price nilS) 70)) := (by with_reducible repeat (first | exact Ext.refl _ | assumption | apply Ext.drewN | apply Ext.drew | apply Ext.alloc | (refine Ext.setCell ?_ (by simp <;> omega) _) | (refine Ext.trans ?_ (by assumption))))
  have hs2 : (W1.alloc (.cells (entC 1 lot 0 price nilS) 70)).heap.size = W1.heap.size + 1 := by simp
  have HT := Lib.hid hT
  have Hs2 := Lib.hid hs2
  clear hT hs2
  change Code.wp _ _ _ _ (W1.alloc (.cells (entC 1 lot 0 price nilS) 70))
  generalize W1.alloc (.cells (entC 1 lot 0 price nilS) 70) = W2 at *
  have hpt : W1.heap.size ≤ W1.heap.size := Nat.le_refl _
  generalize hptE : W1.heap.size = pt at *
  have HptE := Lib.hid hptE
  clear hptE
  go_upto_block 0 with (fail)
  go_cut [4] (fun s4 wx => ∃ x, wx.heap[pt]? = some (.cells (entC 1 lot 0 price x) 70) ∧ wx.ownsRow W2.heap.size 51 2 (slV x) (vlN (vs.take 6)).length ((vlN (vs.take 6)).flatMap cellsP) ∧ Ext W1 wx)
  case first =>
    go_wp2_with (fail)
    go_loopw [4] (fun k wr => EL W1 W2 pt lot price vs k wr) (fun k _ => 6 - (intOf k).toNat)
    case atStart =>
      unfold EL
      exact ⟨0, nilS, by go_num, Nat.zero_le _, by omega, HT.out, World.ownsRow_nil W2 _ 51 2, KeepBut.refl _ _, hx2⟩
    case round =>
      unfold EL at hrel
      obtain ⟨j, ⟨xa, xl, xc⟩, rfl, hj, hj5, hT, hF, hK, hx⟩ := hrel
      have HF := Lib.hid hF
      have HTr := Lib.hid hT
      have HK := Lib.hid hK
      obtain ⟨-, -, u4, ul⟩ := ecells hT
      replace u4 : _ = some (Value.slice xa xl xc) := u4
      have s7 := (hx.cells.1 _ _ (by have := HptE.out; omega)).trans q7
      have sl : pc < wr.heap.size := by have := hx.size; have := HptE.out; omega
      clear hF hT hK
      have hlv : (vlN (vs.take j)).length = j := by rw [vlN_length, List.length_take]; omega
      by_cases hgo : j < vs.length ∧ j < 6
      · obtain ⟨hlt, h5⟩ := hgo
        obtain ⟨A, cap, hA, -, -, hc⟩ := H3.out
        injection hA with hA _ hcap
        subst hA hcap
        obtain ⟨b, off, rfl, hcc⟩ := hc.resolve_left (by intro e; rw [e] at hlt; simp at hlt)
        have hc0 := (hcc j hlt).1
        have hc1 := (hcc j hlt).2
        have hbw := World.block_lt_of_cell? w _ hc0
        have hcr0 := ((hx1.trans hx).cells.1 _ _ hbw).trans hc0
        have hcr1 := ((hx1.trans hx).cells.1 _ _ hbw).trans hc1
        have hbr := Nat.lt_of_lt_of_le hbw (hx1.trans hx).size
        have HS := Lib.hid (show vlN (vs.take (j + 1)) = vlN (vs.take j) ++ [(nameC (modZ vs[j].1 5).toNat, vs[j].2)] by
          rw [List.take_add_one, List.getElem?_eq_getElem hlt, Option.toList_some, vlN_snoc])
        have HL := Lib.hid hlv
        have HN := Lib.hid (names_any vs[j].1 (HRG.out _ (List.getElem_mem hlt)).1.1 (HRG.out _ (List.getElem_mem hlt)).1.2)
        generalize vlN (vs.take j) = st at *
        generalize vs[j] = z at *
        obtain ⟨z1, z2⟩ := z
        generalize nameC (modZ (z1, z2).1 5).toNat = nmz at *
        have k6 : (j : Int) < 6 := by omega
        have k7 : (j : Int) < (vs.length : Int) := by omega
        clear hlv hc0 hc1 hc hcc
        go_wp2_with (fail)
        refine Rr.wp_region [(0, .y), (1, .y), (2, .y), (3, .y), (4, .y), (5, .y), (6, .y), (7, .y), (8, .y), (9, .y), (10, .y), (11, .y), (12, .y), (13, .y), (14, .y), (15, .y), (16, .m)] (fun _ => (.cells #[.string nmz, .int .i64 z2] 51, fun p => .slice (some ⟨p, 0, none⟩) 1 1)) (by kernel_rfl) (by kernel_rfl) ?_
        (refine Rr.wr_y (by simp only [List.getElem?_toArray, List.getElem?_cons_succ, List.getElem?_cons_zero]; rfl) (by rfl) ?_
         apply Exists.intro
         refine ⟨fun wz hw _ => ?_, ?_⟩
         · have hcz := hw.cells.1
           go_simp
           (with_reducible exact Rg.up_value)
         simp only [Act.put, List.setIfInBounds_toArray, List.set_cons_zero, List.set_cons_succ])
        (refine Rr.wr_y (by simp only [List.getElem?_toArray, List.getElem?_cons_succ, List.getElem?_cons_zero]; rfl) (by rfl) ?_
         apply Exists.intro
         refine ⟨fun wz hw _ => ?_, ?_⟩
         · have hcz := hw.cells.1
           go_simp
           (with_reducible exact Rg.up_value)
         simp only [Act.put, List.setIfInBounds_toArray, List.set_cons_zero, List.set_cons_succ])
        (refine Rr.wr_y (by simp only [List.getElem?_toArray, List.getElem?_cons_succ, List.getElem?_cons_zero]; rfl) (by rfl) ?_
         apply Exists.intro
         refine ⟨fun wz hw _ => ?_, ?_⟩
         · have hcz := hw.cells.1
           go_simp
           (with_reducible exact Rg.up_value)
         simp only [Act.put, List.setIfInBounds_toArray, List.set_cons_zero, List.set_cons_succ])
        (refine Rr.wr_y (by simp only [List.getElem?_toArray, List.getElem?_cons_succ, List.getElem?_cons_zero]; rfl) (by rfl) ?_
         apply Exists.intro
         refine ⟨fun wz hw _ => ?_, ?_⟩
         · have hcz := hw.cells.1
           go_simp
           (with_reducible exact Rg.up_value)
         simp only [Act.put, List.setIfInBounds_toArray, List.set_cons_zero, List.set_cons_succ])
        (refine Rr.wr_y (by simp only [List.getElem?_toArray, List.getElem?_cons_succ, List.getElem?_cons_zero]; rfl) (by rfl) ?_
         apply Exists.intro
         refine ⟨fun wz hw _ => ?_, ?_⟩
         · have hcz := hw.cells.1
           go_simp
           (with_reducible exact Rg.up_value)
         simp only [Act.put, List.setIfInBounds_toArray, List.set_cons_zero, List.set_cons_succ])
        (refine Rr.wr_y (by simp only [List.getElem?_toArray, List.getElem?_cons_succ, List.getElem?_cons_zero]; rfl) (by rfl) ?_
         apply Exists.intro
         refine ⟨fun wz hw _ => ?_, ?_⟩
         · have hcz := hw.cells.1
           go_simp
           (with_reducible exact Rg.up_value)
         simp only [Act.put, List.setIfInBounds_toArray, List.set_cons_zero, List.set_cons_succ])
        (refine Rr.wr_y (by simp only [List.getElem?_toArray, List.getElem?_cons_succ, List.getElem?_cons_zero]; rfl) (by rfl) ?_
         apply Exists.intro
         refine ⟨fun wz hw _ => ?_, ?_⟩
         · have hcz := hw.cells.1
           go_simp
           (with_reducible exact Rg.up_value)
         simp only [Act.put, List.setIfInBounds_toArray, List.set_cons_zero, List.set_cons_succ])
        (refine Rr.wr_y (by simp only [List.getElem?_toArray, List.getElem?_cons_succ, List.getElem?_cons_zero]; rfl) (by rfl) ?_
         apply Exists.intro
         refine ⟨fun wz hw _ => ?_, ?_⟩
         · have hcz := hw.cells.1
           go_simp
           (with_reducible exact Rg.up_value)
         simp only [Act.put, List.setIfInBounds_toArray, List.set_cons_zero, List.set_cons_succ])
        (refine Rr.wr_y (by simp only [List.getElem?_toArray, List.getElem?_cons_succ, List.getElem?_cons_zero]; rfl) (by rfl) ?_
         apply Exists.intro
         refine ⟨fun wz hw _ => ?_, ?_⟩
         · have hcz := hw.cells.1
           go_simp
           apply Rg.up_enter
           (with_reducible refine (HN.out _).mono ?_)
           rintro e w3 ⟨rfl, hb3⟩
           exact ⟨rfl, hb3⟩
         simp only [Act.put, List.setIfInBounds_toArray, List.set_cons_zero, List.set_cons_succ])
        (refine Rr.wr_y (by simp only [List.getElem?_toArray, List.getElem?_cons_succ, List.getElem?_cons_zero]; rfl) (by rfl) ?_
         apply Exists.intro
         refine ⟨fun wz hw _ => ?_, ?_⟩
         · have hcz := hw.cells.1
           go_simp
           (with_reducible exact Rg.up_value)
         simp only [Act.put, List.setIfInBounds_toArray, List.set_cons_zero, List.set_cons_succ])
        (refine Rr.wr_y (by simp only [List.getElem?_toArray, List.getElem?_cons_succ, List.getElem?_cons_zero]; rfl) (by rfl) ?_
         apply Exists.intro
         refine ⟨fun wz hw _ => ?_, ?_⟩
         · have hcz := hw.cells.1
           go_simp
           (with_reducible exact Rg.up_value)
         simp only [Act.put, List.setIfInBounds_toArray, List.set_cons_zero, List.set_cons_succ])
        (refine Rr.wr_y (by simp only [List.getElem?_toArray, List.getElem?_cons_succ, List.getElem?_cons_zero]; rfl) (by rfl) ?_
         apply Exists.intro
         refine ⟨fun wz hw _ => ?_, ?_⟩
         · have hcz := hw.cells.1
           go_simp
           (with_reducible exact Rg.up_value)
         simp only [Act.put, List.setIfInBounds_toArray, List.set_cons_zero, List.set_cons_succ])
        (refine Rr.wr_y (by simp only [List.getElem?_toArray, List.getElem?_cons_succ, List.getElem?_cons_zero]; rfl) (by rfl) ?_
         apply Exists.intro
         refine ⟨fun wz hw _ => ?_, ?_⟩
         · have hcz := hw.cells.1
           go_simp
           (with_reducible exact Rg.up_value)
         simp only [Act.put, List.setIfInBounds_toArray, List.set_cons_zero, List.set_cons_succ])
        (refine Rr.wr_y (by simp only [List.getElem?_toArray, List.getElem?_cons_succ, List.getElem?_cons_zero]; rfl) (by rfl) ?_
         apply Exists.intro
         refine ⟨fun wz hw _ => ?_, ?_⟩
         · have hcz := hw.cells.1
           go_simp
           (with_reducible exact Rg.up_value)
         simp only [Act.put, List.setIfInBounds_toArray, List.set_cons_zero, List.set_cons_succ])
        (refine Rr.wr_y (by simp only [List.getElem?_toArray, List.getElem?_cons_succ, List.getElem?_cons_zero]; rfl) (by rfl) ?_
         apply Exists.intro
         refine ⟨fun wz hw _ => ?_, ?_⟩
         · have hcz := hw.cells.1
           go_simp
           (with_reducible exact Rg.up_value)
         simp only [Act.put, List.setIfInBounds_toArray, List.set_cons_zero, List.set_cons_succ])
        (refine Rr.wr_y (by simp only [List.getElem?_toArray, List.getElem?_cons_succ, List.getElem?_cons_zero]; rfl) (by rfl) ?_
         apply Exists.intro
         refine ⟨fun wz hw _ => ?_, ?_⟩
         · have hcz := hw.cells.1
           go_simp
           (with_reducible exact Rg.up_value)
         simp only [Act.put, List.setIfInBounds_toArray, List.set_cons_zero, List.set_cons_succ])
        refine Rr.wr_m (by simp only [List.getElem?_toArray, List.getElem?_cons_succ, List.getElem?_cons_zero]; rfl) (by rfl) (fun wz => by go_simp) (fun p hp => ?_)
        simp only [Act.put, List.setIfInBounds_toArray, List.set_cons_zero, List.set_cons_succ]
        refine Rr.wr_nil ?_
        intro wy hy hh
        have hbl := hh _ List.mem_cons_self
        obtain ⟨hb1, hb2⟩ := hbl
        simp only [List.length_cons, List.length_nil, List.drop_succ_cons, List.drop_zero, Nat.reduceAdd]
        have HP := Lib.hid hb2
        clear hh hb2
        refine append_one one_val 31 51 24 Try.underlying31 info51 rfl (by decide) (by decide) rfl (.tmp 22) (.tmp 37) rfl W2.heap.size (.slice xa xl xc) st (by rfl) (row_ext HF.out hy) p (nmz, z2) (by rfl) HP.out (by have := HL.out; omega) (by have := HK.out.1; have := hy.size; omega) ?_
        intro g' cap' w6 hF6 hb6
        have HF6 := Lib.hid hF6
        have HT6 := Lib.hid ((hb6.block pt (by have := Hs2.out; omega)).trans ((hy.block pt ul).trans HTr.out))
        obtain ⟨-, -, v4, vl⟩ := ecells HT6.out
        replace v4 : _ = some (Value.slice xa xl xc) := v4
        have vf := efree HT6.out 4
        clear hF6 u4 s7
        go_wp2
        go_roundw
        case rel =>
          unfold EL
          refine ⟨j + 1, (some ⟨g', 0, none⟩, st.length + 1, cap'), by go_num, by omega, by omega, heap_setCell_same w6 pt 4 _ 70 _ HT6.out, ?_, HK.out.step hy hb6 4 _, ?_⟩
          · rw [HS.out]
            exact row_keep HF6.out (fun g hg => heap_setCell_other _ _ _ _ (by have := Hs2.out; show g ≠ pt; omega))
          · exact Below.setCell (Below.trans (hx.trans hy) (hb6.mono (by have := Hs2.out; have := HptE.out; omega))) (by have := HptE.out; show _ ≤ pt; omega) _
        case measure => simp [intOf]; omega
      · have ht : vs.take 6 = vs.take j := by
          rcases Nat.lt_or_ge j 6 with h | h
          · rw [List.take_of_length_le (by omega), List.take_of_length_le (by omega)]
          · rw [show j = 6 by omega]
        have HX := Lib.hid (show _ ∧ _ ∧ _ from ⟨HTr.out, HF.out, hx⟩)
        rw [← ht] at HX
        rcases (show ((j : Int) < (vs.length : Int) ∧ ¬ (j : Int) < 6) ∨ ¬ (j : Int) < (vs.length : Int) by omega) with ⟨h1, h2⟩ | h1
        all_goals
          go_wp2
          go_meet
          case rel => exact ⟨_, HX.out⟩
  case rest =>
    obtain ⟨wd, rfl⟩ : ∃ wd : World, wd = wc := ⟨_, rfl⟩
    obtain ⟨x, hT, hF, hx⟩ := hcut
    have HTd := Lib.hid hT
    have HF := Lib.hid hF
    have HRd := Lib.hid ((hx.block pr (Rg.lt_of_heap HR.out)).trans HR.out)
    have hTl := Rg.lt_of_heap hT
    clear hT hF
    go_wp2_with (first
      | (refine wpList_load_row (hgd := rfl) 70 (.tmp 3) rfl pt (by rfl) 70 _ _ _ HTd.out Try.underlying70 rfl (by kernel_rfl) ?_)
      | (refine wpList_store_row (hgd := rfl) 70 (.tmp 2) (.tmp 40) rfl pr (by rfl) (entC 1 lot 0 price x) (by rfl) _ 70 HRd.out (by rfl) (by kernel_rfl) (ent_one _ _ _ _ _) ?_))
    have hR5 : (wd.setRow pr (entC 1 lot 0 price x)).heap[pr]? = some (.cells (entC 1 lot 0 price x) 70) := setRow_heap _ _ _ _ _ _ HRd.out
    have hpp : pr < W2.heap.size := by have := Hs2.out; have := HptE.out; have := Rg.lt_of_heap HR.out; omega
    have hxl : Ext w (wd.setRow pr (entC 1 lot 0 price x)) := below_setRow (hx1.trans hx) (by have := Hpc.out; omega) _
    refine bodyPost_ret (v := .agg (entC 1 lot 0 price x)) (results_cell_row Try.results37 _ _ pr 70 _ _ _ (by rfl) hR5 Try.underlying70 rfl (by kernel_rfl)) rfl ⟨x, rfl, hxl, ?_⟩
    refine vrd_row (row_keep HF.out (fun g hg => setRow_other _ _ _ _ (by omega))) (fun z hz => ?_) (by rw [vlN_length, List.length_take]; omega)
    obtain ⟨q, hq, rfl⟩ := List.mem_map.1 hz
    exact (HRG.out q (List.mem_of_mem_take hq)).2
end Go.Proofs.Ytgkdeknfmmgbdaa
