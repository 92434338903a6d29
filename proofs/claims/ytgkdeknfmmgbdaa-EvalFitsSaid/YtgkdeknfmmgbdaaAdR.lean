/-
  The reference's Admit walked. Conditions: the tender's and the bid's slices read as lists.
-/
import Derived.Test.YtgkdeknfmmgbdaaAdC
import Derived.Test.YtgkdeknfmmgbdaaAdS
namespace Go.Proofs.Ytgkdeknfmmgbdaa
set_option linter.unusedVariables false
set_option linter.unusedSimpArgs false
open Go.RowKit

theorem known_drop (cs : List Cr) (nm : ByteArray) (k : Nat) (h : k < cs.length) : knownC (cs.drop k) nm = ((cs[k].name.toList == nm.toList) || knownC (cs.drop (k + 1)) nm) := by
  unfold knownC; rw [List.drop_eq_getElem_cons h, List.any_cons]

set_option maxRecDepth 100000 in
set_option maxHeartbeats 2000000 in
theorem criterion_any (r : TnR) (nm : ByteArray) (cs : List Cr) (w : World) (h2 : SR cellsCr 5 w (slV r.cs) cs) :
    Calls Try.prog 66 #[.agg (tenC r), .string nm] w fun e w' => e = .returned (.bool (knownC cs nm)) ∧ Ext w w' := by
  obtain ⟨ca, cl, cc, hr2⟩ : ∃ ca cl cc, r.cs = (ca, cl, cc) := ⟨_, _, _, rfl⟩
  rw [hr2] at h2
  obtain rfl : cl = cs.length := h2.len
  have T1 := Lib.hid (fun (w : World) (p : Nat) (h : w.heap[p]? = some (.cells (tenC r) 68)) => (show w.cell? ⟨p, 2, none⟩ = some (.slice ca cs.length cc) ∧ p < w.heap.size by
    have := tcells h
    rw [hr2] at this
    exact ⟨this.2.1, this.2.2.2.2.2⟩))
  have hle2 : (cs.length : Int) ≤ 1000000 := by have := h2.le; omega
  have H2 := Lib.hid h2
  clear h2 hr2
  go_enter Try.func66, Try.ntmps66
  go_upto_region 1 with (fail)
  have hx0 : Ext w (w.alloc (.cells (tenC r) 68)) := (by with_reducible repeat (first | exact Ext.refl _ | assumption | apply Ext.drewN | apply Ext.drew | apply Ext.alloc | (refine Ext.setCell ?_ (by simp <;> omega) _) | (refine Ext.trans ?_ (by assumption))))
  obtain ⟨d2, dl⟩ := T1.out _ _ (block_new (w := w) (o := .cells (tenC r) 68) rfl)
  generalize w.alloc (.cells (tenC r) 68) = W at *
  generalize w.heap.size = pt at *
  go_wp2_with (fail)
  go_loopw [5] (fun k wr => ∃ j : Nat, k = .int .i64 j ∧ j ≤ cs.length ∧ Hid (knownC cs nm = knownC (cs.drop j) nm) ∧ Ext W wr) (fun k _ => cs.length - (intOf k).toNat)
  case atStart => exact ⟨0, by go_num, Nat.zero_le _, Lib.hid rfl, Ext.refl _⟩
  case round =>
    obtain ⟨j, rfl, hj, hall, hx⟩ := hrel
    have d2r := (hx.cells.1 _ _ dl).trans d2
    have dlr := Nat.lt_of_lt_of_le dl hx.size
    rcases Nat.lt_or_ge j cs.length with hlt | hge
    · obtain ⟨bc, rfl, hcs⟩ := H2.out.at (hx0.trans hx) j hlt
      have hs0 : wr.cell? ⟨bc, j * 5, none⟩ = some (.string cs[j].name) := hcs 0 _ rfl
      have hbc := World.block_lt_of_cell? wr _ hs0
      have HD := Lib.hid (hall.out.trans (known_drop cs nm j hlt))
      have hjl : (j : Int) < (cs.length : Int) := by omega
      generalize cs[j] = c at *
      obtain ⟨cn, ck, clo, chi, cle⟩ := c
      clear hcs hall d2
      cases hq : (cn.toList == nm.toList)
      · have HB := Lib.hid (show knownC cs nm = knownC (cs.drop (j + 1)) nm by rw [HD.out]; simp only [hq, Bool.false_or])
        go_wp2
        go_roundw
        case rel => exact ⟨j + 1, by go_num, by omega, HB, (by with_reducible repeat (first | exact Ext.refl _ | assumption | apply Ext.drewN | apply Ext.drew | apply Ext.alloc | (refine Ext.setCell ?_ (by simp <;> omega) _) | (refine Ext.trans ?_ (by assumption))))⟩
        case measure => simp [intOf]; omega
      · have HB := Lib.hid (show knownC cs nm = true by rw [HD.out]; simp only [hq, Bool.true_or])
        go_wp2
        go_ret
        exact ⟨by rw [HB.out]; rfl, (by with_reducible repeat (first | exact Ext.refl _ | assumption | apply Ext.drewN | apply Ext.drew | apply Ext.alloc | (refine Ext.setCell ?_ (by simp <;> omega) _) | (refine Ext.trans ?_ (by assumption))))⟩
    · have HB := Lib.hid (show knownC cs nm = false by rw [hall.out, List.drop_eq_nil_of_le hge]; rfl)
      have hjl : ¬ (j : Int) < (cs.length : Int) := by omega
      go_wp2
      go_ret
      exact ⟨by rw [HB.out]; rfl, (by with_reducible repeat (first | exact Ext.refl _ | assumption | apply Ext.drewN | apply Ext.drew | apply Ext.alloc | (refine Ext.setCell ?_ (by simp <;> omega) _) | (refine Ext.trans ?_ (by assumption))))⟩
set_option maxRecDepth 100000 in
set_option maxHeartbeats 4000000 in
theorem refAdmit_any (r : TnR) (bidder lot receipt price : Int) (es : Sl) (ls : List (Int × Int)) (cs : List Cr) (rs : List Rq) (vs : Vals) (w : World)
    (h1 : SR cellsLot 2 w (slV r.ls) ls) (h2 : SR cellsCr 5 w (slV r.cs) cs) (h3 : SR cellsRq 3 w (slV r.rs) rs) (h4 : VRd All w vs (slV es)) :
    Calls Try.prog 38 #[.agg (tenC r), .agg (entC bidder lot receipt price es)] w fun e w' => e = .returned (.int .i64 (admitI ls cs rs r.low r.high lot price vs)) ∧ Ext w w' := by
  obtain ⟨nm, ⟨la, ll, lc⟩, ⟨ca, cl, cc⟩, ⟨ra, rl, rc⟩, low, high, fo, f1, f2, fn, ⟨fa, fl, fc⟩, ⟨ta, tl, tc⟩, most0, ⟨ka, kl, kc⟩, budget, t0, t1, t2, t3, t4⟩ := r
  obtain ⟨ea, el, ec⟩ := es
  obtain rfl : ll = ls.length := h1.len
  obtain rfl : cl = cs.length := h2.len
  obtain rfl : rl = rs.length := h3.len
  obtain rfl : el = vs.length := by obtain ⟨_, _, hf, -⟩ := h4; injection hf
  have H1 := Lib.hid h1
  have H2 := Lib.hid h2
  have H3 := Lib.hid h3
  have H4 := Lib.hid h4
  have hle1 : (ls.length : Int) ≤ 1000000 := by have := h1.le; omega
  have hle2 : (cs.length : Int) ≤ 1000000 := by have := h2.le; omega
  have hle3 : (rs.length : Int) ≤ 1000000 := by have := h3.le; omega
  have hle4 : (vs.length : Int) ≤ 1000000 := by obtain ⟨_, _, -, h, -⟩ := h4; omega
  clear h1 h2 h3 h4
  generalize hr : (TnR.mk nm (la, ls.length, lc) (ca, cs.length, cc) (ra, rs.length, rc) low high fo f1 f2 fn (fa, fl, fc) (ta, tl, tc) most0 (ka, kl, kc) budget t0 t1 t2 t3 t4) = r
  have HRR := Lib.hid hr
  have r1 : r.ls = (la, ls.length, lc) := by rw [← hr]
  have r2 : r.cs = (ca, cs.length, cc) := by rw [← hr]
  have r3 : r.rs = (ra, rs.length, rc) := by rw [← hr]
  have r4 : r.low = low := by rw [← hr]
  have r5 : r.high = high := by rw [← hr]
  have T1 := Lib.hid (fun (w : World) (p : Nat) (h : w.heap[p]? = some (.cells (tenC r) 68)) => (show w.cell? ⟨p, 1, none⟩ = some (.slice la ls.length lc) ∧ w.cell? ⟨p, 2, none⟩ = some (.slice ca cs.length cc) ∧ w.cell? ⟨p, 3, none⟩ = some (.slice ra rs.length rc) ∧ w.cell? ⟨p, 4, none⟩ = some (.int .i64 low) ∧ w.cell? ⟨p, 5, none⟩ = some (.int .i64 high) ∧ p < w.heap.size by
    have := tcells h
    rw [r1, r2, r3, r4, r5] at this
    exact this))
  rw [r4, r5]
  have KC := Lib.hid (fun (nm : ByteArray) (w : World) (h : SR cellsCr 5 w (.slice ca cs.length cc) cs) => criterion_any r nm cs w (by rw [r2]; exact h))
  clear hr r1 r2 r3 r4 r5 HRR
  go_enter Try.func38, Try.ntmps38
  go_upto_region 1 with (fail)
  have hx0 : Ext w ((w.alloc (.cells (tenC r) 68)).alloc (.cells (entC bidder lot receipt price (ea, vs.length, ec)) 70)) := (by with_reducible repeat (first | exact Ext.refl _ | assumption | apply Ext.drewN | apply Ext.drew | apply Ext.alloc | (refine Ext.setCell ?_ (by simp <;> omega) _) | (refine Ext.trans ?_ (by assumption))))
  have hT : ((w.alloc (.cells (tenC r) 68)).alloc (.cells (entC bidder lot receipt price (ea, vs.length, ec)) 70)).heap[w.heap.size]? = some (.cells (tenC r) 68) := by
    rw [Below.heap_alloc _ _ _ (by simp)]; exact block_new rfl
  have hE : ((w.alloc (.cells (tenC r) 68)).alloc (.cells (entC bidder lot receipt price (ea, vs.length, ec)) 70)).heap[w.heap.size + 1]? = some (.cells (entC bidder lot receipt price (ea, vs.length, ec)) 70) := block_new (by simp)
  obtain ⟨d1, d2, d3, d4, d5, dl⟩ := T1.out _ _ hT
  obtain ⟨e1, e3, e4, el⟩ := ecells hE
  replace e4 : _ = some (Value.slice ea vs.length ec) := e4
  have HT := Lib.hid hT
  have HE := Lib.hid hE
  clear hT hE
  generalize (w.alloc (.cells (tenC r) 68)).alloc (.cells (entC bidder lot receipt price (ea, vs.length, ec)) 70) = W at *
  generalize w.heap.size + 1 = pe at *
  generalize w.heap.size = pt at *
  go_wp2_with (fail)
  go_loopw [5, 6] (fun z k wr => ∃ j : Nat, k = .int .i64 ((j : Int) - 1) ∧ j ≤ ls.length ∧ z = .int .i64 (idxFrom (lotP ls lot) ls.length (ls.length - j)) ∧ Ext W wr) (fun _ k _ => (intOf k + 1).toNat)
  case atStart => exact ⟨ls.length, by go_num, Nat.le_refl _, by rw [Nat.sub_self]; rfl, Ext.refl _⟩
  case round =>
    obtain ⟨j, rfl, hj, rfl, hx⟩ := hrel
    have d1r := (hx.cells.1 _ _ dl).trans d1
    have dlr := Nat.lt_of_lt_of_le dl hx.size
    have e1r := (hx.cells.1 _ _ el).trans e1
    have elr := Nat.lt_of_lt_of_le el hx.size
    rcases Nat.eq_zero_or_pos j with rfl | hpos
    · have hidx := idx_find (fun l => l.1 == lot) ls (lotP ls lot) (lotP_spec ls lot)
      unfold idxZ at hidx
      rw [Nat.sub_zero] at *
      generalize idxFrom (lotP ls lot) ls.length ls.length = z at *
      obtain ⟨W1, rfl⟩ : ∃ W1 : World, W1 = wr := ⟨_, rfl⟩
      have HT1 := Lib.hid ((hx.block _ dl).trans HT.out)
      have HE1 := Lib.hid ((hx.block _ el).trans HE.out)
      have hxw := hx0.trans hx
      clear d1 d2 d3 d4 d5 e1 e3 e4 HT HE d1r e1r hj
      rcases hidx with ⟨hf, rfl⟩ | ⟨k, hk, hf, rfl⟩
      · have HA := Lib.hid (show admitI ls cs rs low high lot price vs = 34 by unfold admitI lotAt; rw [hf])
        clear hf
        go_wp2
        go_ret
        exact ⟨by rw [HA.out]; rfl, (by with_reducible repeat (first | exact Ext.refl _ | assumption | apply Ext.drewN | apply Ext.drew | apply Ext.alloc | (refine Ext.setCell ?_ (by simp <;> omega) _) | (refine Ext.trans ?_ (by assumption))))⟩
      · have HA := Lib.hid (show admitI ls cs rs low high lot price vs = if price < low ∨ high < price ∨ ls[k].2 < price then 16 else restE cs rs vs by unfold admitI lotAt; rw [hf])
        obtain ⟨b, rfl, hcs⟩ := H1.out.at hxw k hk
        have m1 : W1.cell? ⟨b, k * 2 + 1, none⟩ = some (.int .i64 ls[k].2) := hcs 1 _ rfl
        have hkn : (k : Int) < (ls.length : Int) := by omega
        have hk6 : (k : Int) ≤ 1000000 := by omega
        have lb := World.block_lt_of_cell? _ _ m1
        obtain ⟨c1, c2, c3, c4, c5, lt⟩ := T1.out _ _ HT1.out
        obtain ⟨e1, q3, e4, le'⟩ := ecells HE1.out
        replace e4 : _ = some (Value.slice ea vs.length ec) := e4
        generalize ls[k].2 = most at *
        clear hf hcs hk
        go_upto_region 9 with (fail)
        by_cases hlo : price < low
        · have HA' := Lib.hid (HA.out.trans (if_pos (.inl hlo)))
          refine Rr.wp_region ((List.range 22).map (fun i => (i, .y))) (fun _ => (.cells #[] 29, Rg.ptr)) (by kernel_rfl) (by kernel_rfl) ?_
          simp only [List.range, List.range.loop, List.map_cons, List.map_nil]
          (refine Rr.wr_y (by simp only [List.getElem?_toArray, List.getElem?_cons_succ, List.getElem?_cons_zero]; rfl) (by rfl) ?_
           apply Exists.intro
           refine ⟨fun wz hw _ => ?_, ?_⟩
           · have hcz := hw.cells.1
             go_simp
             (with_reducible exact Rg.up_value)
           simp only [Act.put, List.setIfInBounds_toArray, List.set_cons_zero, List.set_cons_succ])
          (refine Rr.wr_y (by simp only [List.getElem?_toArray, List.getElem?_cons_succ, List.getElem?_cons_zero]; rfl) (by rfl) ?_
           apply Exists.intro
           refine ⟨fun wz hw _ => ?_, ?_⟩
           · have hcz := hw.cells.1
             go_simp
             (with_reducible exact Rg.up_value)
           simp only [Act.put, List.setIfInBounds_toArray, List.set_cons_zero, List.set_cons_succ])
          (refine Rr.wr_y (by simp only [List.getElem?_toArray, List.getElem?_cons_succ, List.getElem?_cons_zero]; rfl) (by rfl) ?_
           apply Exists.intro
           refine ⟨fun wz hw _ => ?_, ?_⟩
           · have hcz := hw.cells.1
             go_simp
             (with_reducible exact Rg.up_value)
           simp only [Act.put, List.setIfInBounds_toArray, List.set_cons_zero, List.set_cons_succ])
          (refine Rr.wr_y (by simp only [List.getElem?_toArray, List.getElem?_cons_succ, List.getElem?_cons_zero]; rfl) (by rfl) ?_
           apply Exists.intro
           refine ⟨fun wz hw _ => ?_, ?_⟩
           · have hcz := hw.cells.1
             go_simp
             (with_reducible exact Rg.up_value)
           simp only [Act.put, List.setIfInBounds_toArray, List.set_cons_zero, List.set_cons_succ])
          (refine Rr.wr_y (by simp only [List.getElem?_toArray, List.getElem?_cons_succ, List.getElem?_cons_zero]; rfl) (by rfl) ?_
           apply Exists.intro
           refine ⟨fun wz hw _ => ?_, ?_⟩
           · have hcz := hw.cells.1
             go_simp
             (with_reducible exact Rg.up_value)
           simp only [Act.put, List.setIfInBounds_toArray, List.set_cons_zero, List.set_cons_succ])
          (refine Rr.wr_y (by simp only [List.getElem?_toArray, List.getElem?_cons_succ, List.getElem?_cons_zero]; rfl) (by rfl) ?_
           apply Exists.intro
           refine ⟨fun wz hw _ => ?_, ?_⟩
           · have hcz := hw.cells.1
             go_simp
             (with_reducible exact Rg.up_value)
           simp only [Act.put, List.setIfInBounds_toArray, List.set_cons_zero, List.set_cons_succ])
          refine Rr.wr_skip (by simp only [List.getElem?_toArray, List.getElem?_cons_succ, List.getElem?_cons_zero]; rfl) (by rfl) ?_
          simp only [Act.put, List.setIfInBounds_toArray, List.set_cons_zero, List.set_cons_succ]
          refine Rr.wr_skip (by simp only [List.getElem?_toArray, List.getElem?_cons_succ, List.getElem?_cons_zero]; rfl) (by rfl) ?_
          simp only [Act.put, List.setIfInBounds_toArray, List.set_cons_zero, List.set_cons_succ]
          refine Rr.wr_skip (by simp only [List.getElem?_toArray, List.getElem?_cons_succ, List.getElem?_cons_zero]; rfl) (by rfl) ?_
          simp only [Act.put, List.setIfInBounds_toArray, List.set_cons_zero, List.set_cons_succ]
          refine Rr.wr_skip (by simp only [List.getElem?_toArray, List.getElem?_cons_succ, List.getElem?_cons_zero]; rfl) (by rfl) ?_
          simp only [Act.put, List.setIfInBounds_toArray, List.set_cons_zero, List.set_cons_succ]
          refine Rr.wr_skip (by simp only [List.getElem?_toArray, List.getElem?_cons_succ, List.getElem?_cons_zero]; rfl) (by rfl) ?_
          simp only [Act.put, List.setIfInBounds_toArray, List.set_cons_zero, List.set_cons_succ]
          (refine Rr.wr_y (by simp only [List.getElem?_toArray, List.getElem?_cons_succ, List.getElem?_cons_zero]; rfl) (by rfl) ?_
           apply Exists.intro
           refine ⟨fun wz hw _ => ?_, ?_⟩
           · have hcz := hw.cells.1
             go_simp
             (with_reducible exact Rg.up_value)
           simp only [Act.put, List.setIfInBounds_toArray, List.set_cons_zero, List.set_cons_succ])
          (refine Rr.wr_y (by simp only [List.getElem?_toArray, List.getElem?_cons_succ, List.getElem?_cons_zero]; rfl) (by rfl) ?_
           apply Exists.intro
           refine ⟨fun wz hw _ => ?_, ?_⟩
           · have hcz := hw.cells.1
             go_simp
             (with_reducible exact Rg.up_value)
           simp only [Act.put, List.setIfInBounds_toArray, List.set_cons_zero, List.set_cons_succ])
          refine Rr.wr_skip (by simp only [List.getElem?_toArray, List.getElem?_cons_succ, List.getElem?_cons_zero]; rfl) (by rfl) ?_
          simp only [Act.put, List.setIfInBounds_toArray, List.set_cons_zero, List.set_cons_succ]
          refine Rr.wr_skip (by simp only [List.getElem?_toArray, List.getElem?_cons_succ, List.getElem?_cons_zero]; rfl) (by rfl) ?_
          simp only [Act.put, List.setIfInBounds_toArray, List.set_cons_zero, List.set_cons_succ]
          refine Rr.wr_skip (by simp only [List.getElem?_toArray, List.getElem?_cons_succ, List.getElem?_cons_zero]; rfl) (by rfl) ?_
          simp only [Act.put, List.setIfInBounds_toArray, List.set_cons_zero, List.set_cons_succ]
          refine Rr.wr_skip (by simp only [List.getElem?_toArray, List.getElem?_cons_succ, List.getElem?_cons_zero]; rfl) (by rfl) ?_
          simp only [Act.put, List.setIfInBounds_toArray, List.set_cons_zero, List.set_cons_succ]
          refine Rr.wr_skip (by simp only [List.getElem?_toArray, List.getElem?_cons_succ, List.getElem?_cons_zero]; rfl) (by rfl) ?_
          simp only [Act.put, List.setIfInBounds_toArray, List.set_cons_zero, List.set_cons_succ]
          refine Rr.wr_skip (by simp only [List.getElem?_toArray, List.getElem?_cons_succ, List.getElem?_cons_zero]; rfl) (by rfl) ?_
          simp only [Act.put, List.setIfInBounds_toArray, List.set_cons_zero, List.set_cons_succ]
          refine Rr.wr_skip (by simp only [List.getElem?_toArray, List.getElem?_cons_succ, List.getElem?_cons_zero]; rfl) (by rfl) ?_
          simp only [Act.put, List.setIfInBounds_toArray, List.set_cons_zero, List.set_cons_succ]
          refine Rr.wr_skip (by simp only [List.getElem?_toArray, List.getElem?_cons_succ, List.getElem?_cons_zero]; rfl) (by rfl) ?_
          simp only [Act.put, List.setIfInBounds_toArray, List.set_cons_zero, List.set_cons_succ]
          refine Rr.wr_skip (by simp only [List.getElem?_toArray, List.getElem?_cons_succ, List.getElem?_cons_zero]; rfl) (by rfl) ?_
          simp only [Act.put, List.setIfInBounds_toArray, List.set_cons_zero, List.set_cons_succ]
          refine Rr.wr_nil ?_
          intro wy hy hh
          simp only [List.length_cons, List.length_nil, List.drop_succ_cons, List.drop_zero, Nat.reduceAdd]
          clear hh
          go_wp2
          go_ret
          exact ⟨by rw [HA'.out]; rfl, (by with_reducible repeat (first | exact Ext.refl _ | assumption | apply Ext.drewN | apply Ext.drew | apply Ext.alloc | (refine Ext.setCell ?_ (by simp <;> omega) _) | (refine Ext.trans ?_ (by assumption))))⟩
        · by_cases hhi : high < price
          · have HA' := Lib.hid (HA.out.trans (if_pos (.inr (.inl hhi))))
            refine Rr.wp_region ((List.range 22).map (fun i => (i, .y))) (fun _ => (.cells #[] 29, Rg.ptr)) (by kernel_rfl) (by kernel_rfl) ?_
            simp only [List.range, List.range.loop, List.map_cons, List.map_nil]
            (refine Rr.wr_y (by simp only [List.getElem?_toArray, List.getElem?_cons_succ, List.getElem?_cons_zero]; rfl) (by rfl) ?_
             apply Exists.intro
             refine ⟨fun wz hw _ => ?_, ?_⟩
             · have hcz := hw.cells.1
               go_simp
               (with_reducible exact Rg.up_value)
             simp only [Act.put, List.setIfInBounds_toArray, List.set_cons_zero, List.set_cons_succ])
            (refine Rr.wr_y (by simp only [List.getElem?_toArray, List.getElem?_cons_succ, List.getElem?_cons_zero]; rfl) (by rfl) ?_
             apply Exists.intro
             refine ⟨fun wz hw _ => ?_, ?_⟩
             · have hcz := hw.cells.1
               go_simp
               (with_reducible exact Rg.up_value)
             simp only [Act.put, List.setIfInBounds_toArray, List.set_cons_zero, List.set_cons_succ])
            (refine Rr.wr_y (by simp only [List.getElem?_toArray, List.getElem?_cons_succ, List.getElem?_cons_zero]; rfl) (by rfl) ?_
             apply Exists.intro
             refine ⟨fun wz hw _ => ?_, ?_⟩
             · have hcz := hw.cells.1
               go_simp
               (with_reducible exact Rg.up_value)
             simp only [Act.put, List.setIfInBounds_toArray, List.set_cons_zero, List.set_cons_succ])
            (refine Rr.wr_y (by simp only [List.getElem?_toArray, List.getElem?_cons_succ, List.getElem?_cons_zero]; rfl) (by rfl) ?_
             apply Exists.intro
             refine ⟨fun wz hw _ => ?_, ?_⟩
             · have hcz := hw.cells.1
               go_simp
               (with_reducible exact Rg.up_value)
             simp only [Act.put, List.setIfInBounds_toArray, List.set_cons_zero, List.set_cons_succ])
            (refine Rr.wr_y (by simp only [List.getElem?_toArray, List.getElem?_cons_succ, List.getElem?_cons_zero]; rfl) (by rfl) ?_
             apply Exists.intro
             refine ⟨fun wz hw _ => ?_, ?_⟩
             · have hcz := hw.cells.1
               go_simp
               (with_reducible exact Rg.up_value)
             simp only [Act.put, List.setIfInBounds_toArray, List.set_cons_zero, List.set_cons_succ])
            (refine Rr.wr_y (by simp only [List.getElem?_toArray, List.getElem?_cons_succ, List.getElem?_cons_zero]; rfl) (by rfl) ?_
             apply Exists.intro
             refine ⟨fun wz hw _ => ?_, ?_⟩
             · have hcz := hw.cells.1
               go_simp
               (with_reducible exact Rg.up_value)
             simp only [Act.put, List.setIfInBounds_toArray, List.set_cons_zero, List.set_cons_succ])
            (refine Rr.wr_y (by simp only [List.getElem?_toArray, List.getElem?_cons_succ, List.getElem?_cons_zero]; rfl) (by rfl) ?_
             apply Exists.intro
             refine ⟨fun wz hw _ => ?_, ?_⟩
             · have hcz := hw.cells.1
               go_simp
               (with_reducible exact Rg.up_value)
             simp only [Act.put, List.setIfInBounds_toArray, List.set_cons_zero, List.set_cons_succ])
            (refine Rr.wr_y (by simp only [List.getElem?_toArray, List.getElem?_cons_succ, List.getElem?_cons_zero]; rfl) (by rfl) ?_
             apply Exists.intro
             refine ⟨fun wz hw _ => ?_, ?_⟩
             · have hcz := hw.cells.1
               go_simp
               (with_reducible exact Rg.up_value)
             simp only [Act.put, List.setIfInBounds_toArray, List.set_cons_zero, List.set_cons_succ])
            (refine Rr.wr_y (by simp only [List.getElem?_toArray, List.getElem?_cons_succ, List.getElem?_cons_zero]; rfl) (by rfl) ?_
             apply Exists.intro
             refine ⟨fun wz hw _ => ?_, ?_⟩
             · have hcz := hw.cells.1
               go_simp
               (with_reducible exact Rg.up_value)
             simp only [Act.put, List.setIfInBounds_toArray, List.set_cons_zero, List.set_cons_succ])
            (refine Rr.wr_y (by simp only [List.getElem?_toArray, List.getElem?_cons_succ, List.getElem?_cons_zero]; rfl) (by rfl) ?_
             apply Exists.intro
             refine ⟨fun wz hw _ => ?_, ?_⟩
             · have hcz := hw.cells.1
               go_simp
               (with_reducible exact Rg.up_value)
             simp only [Act.put, List.setIfInBounds_toArray, List.set_cons_zero, List.set_cons_succ])
            (refine Rr.wr_y (by simp only [List.getElem?_toArray, List.getElem?_cons_succ, List.getElem?_cons_zero]; rfl) (by rfl) ?_
             apply Exists.intro
             refine ⟨fun wz hw _ => ?_, ?_⟩
             · have hcz := hw.cells.1
               go_simp
               (with_reducible exact Rg.up_value)
             simp only [Act.put, List.setIfInBounds_toArray, List.set_cons_zero, List.set_cons_succ])
            (refine Rr.wr_y (by simp only [List.getElem?_toArray, List.getElem?_cons_succ, List.getElem?_cons_zero]; rfl) (by rfl) ?_
             apply Exists.intro
             refine ⟨fun wz hw _ => ?_, ?_⟩
             · have hcz := hw.cells.1
               go_simp
               (with_reducible exact Rg.up_value)
             simp only [Act.put, List.setIfInBounds_toArray, List.set_cons_zero, List.set_cons_succ])
            (refine Rr.wr_y (by simp only [List.getElem?_toArray, List.getElem?_cons_succ, List.getElem?_cons_zero]; rfl) (by rfl) ?_
             apply Exists.intro
             refine ⟨fun wz hw _ => ?_, ?_⟩
             · have hcz := hw.cells.1
               go_simp
               (with_reducible exact Rg.up_value)
             simp only [Act.put, List.setIfInBounds_toArray, List.set_cons_zero, List.set_cons_succ])
            refine Rr.wr_skip (by simp only [List.getElem?_toArray, List.getElem?_cons_succ, List.getElem?_cons_zero]; rfl) (by rfl) ?_
            simp only [Act.put, List.setIfInBounds_toArray, List.set_cons_zero, List.set_cons_succ]
            refine Rr.wr_skip (by simp only [List.getElem?_toArray, List.getElem?_cons_succ, List.getElem?_cons_zero]; rfl) (by rfl) ?_
            simp only [Act.put, List.setIfInBounds_toArray, List.set_cons_zero, List.set_cons_succ]
            refine Rr.wr_skip (by simp only [List.getElem?_toArray, List.getElem?_cons_succ, List.getElem?_cons_zero]; rfl) (by rfl) ?_
            simp only [Act.put, List.setIfInBounds_toArray, List.set_cons_zero, List.set_cons_succ]
            refine Rr.wr_skip (by simp only [List.getElem?_toArray, List.getElem?_cons_succ, List.getElem?_cons_zero]; rfl) (by rfl) ?_
            simp only [Act.put, List.setIfInBounds_toArray, List.set_cons_zero, List.set_cons_succ]
            refine Rr.wr_skip (by simp only [List.getElem?_toArray, List.getElem?_cons_succ, List.getElem?_cons_zero]; rfl) (by rfl) ?_
            simp only [Act.put, List.setIfInBounds_toArray, List.set_cons_zero, List.set_cons_succ]
            refine Rr.wr_skip (by simp only [List.getElem?_toArray, List.getElem?_cons_succ, List.getElem?_cons_zero]; rfl) (by rfl) ?_
            simp only [Act.put, List.setIfInBounds_toArray, List.set_cons_zero, List.set_cons_succ]
            refine Rr.wr_skip (by simp only [List.getElem?_toArray, List.getElem?_cons_succ, List.getElem?_cons_zero]; rfl) (by rfl) ?_
            simp only [Act.put, List.setIfInBounds_toArray, List.set_cons_zero, List.set_cons_succ]
            refine Rr.wr_skip (by simp only [List.getElem?_toArray, List.getElem?_cons_succ, List.getElem?_cons_zero]; rfl) (by rfl) ?_
            simp only [Act.put, List.setIfInBounds_toArray, List.set_cons_zero, List.set_cons_succ]
            refine Rr.wr_skip (by simp only [List.getElem?_toArray, List.getElem?_cons_succ, List.getElem?_cons_zero]; rfl) (by rfl) ?_
            simp only [Act.put, List.setIfInBounds_toArray, List.set_cons_zero, List.set_cons_succ]
            refine Rr.wr_nil ?_
            intro wy hy hh
            simp only [List.length_cons, List.length_nil, List.drop_succ_cons, List.drop_zero, Nat.reduceAdd]
            clear hh
            go_wp2
            go_ret
            exact ⟨by rw [HA'.out]; rfl, (by with_reducible repeat (first | exact Ext.refl _ | assumption | apply Ext.drewN | apply Ext.drew | apply Ext.alloc | (refine Ext.setCell ?_ (by simp <;> omega) _) | (refine Ext.trans ?_ (by assumption))))⟩
          · by_cases hmo : most < price
            · have HA' := Lib.hid (HA.out.trans (if_pos (.inr (.inr hmo))))
              refine Rr.wp_region ((List.range 22).map (fun i => (i, .y))) (fun _ => (.cells #[] 29, Rg.ptr)) (by kernel_rfl) (by kernel_rfl) ?_
              simp only [List.range, List.range.loop, List.map_cons, List.map_nil]
              (refine Rr.wr_y (by simp only [List.getElem?_toArray, List.getElem?_cons_succ, List.getElem?_cons_zero]; rfl) (by rfl) ?_
               apply Exists.intro
               refine ⟨fun wz hw _ => ?_, ?_⟩
               · have hcz := hw.cells.1
                 go_simp
                 (with_reducible exact Rg.up_value)
               simp only [Act.put, List.setIfInBounds_toArray, List.set_cons_zero, List.set_cons_succ])
              (refine Rr.wr_y (by simp only [List.getElem?_toArray, List.getElem?_cons_succ, List.getElem?_cons_zero]; rfl) (by rfl) ?_
               apply Exists.intro
               refine ⟨fun wz hw _ => ?_, ?_⟩
               · have hcz := hw.cells.1
                 go_simp
                 (with_reducible exact Rg.up_value)
               simp only [Act.put, List.setIfInBounds_toArray, List.set_cons_zero, List.set_cons_succ])
              (refine Rr.wr_y (by simp only [List.getElem?_toArray, List.getElem?_cons_succ, List.getElem?_cons_zero]; rfl) (by rfl) ?_
               apply Exists.intro
               refine ⟨fun wz hw _ => ?_, ?_⟩
               · have hcz := hw.cells.1
                 go_simp
                 (with_reducible exact Rg.up_value)
               simp only [Act.put, List.setIfInBounds_toArray, List.set_cons_zero, List.set_cons_succ])
              (refine Rr.wr_y (by simp only [List.getElem?_toArray, List.getElem?_cons_succ, List.getElem?_cons_zero]; rfl) (by rfl) ?_
               apply Exists.intro
               refine ⟨fun wz hw _ => ?_, ?_⟩
               · have hcz := hw.cells.1
                 go_simp
                 (with_reducible exact Rg.up_value)
               simp only [Act.put, List.setIfInBounds_toArray, List.set_cons_zero, List.set_cons_succ])
              (refine Rr.wr_y (by simp only [List.getElem?_toArray, List.getElem?_cons_succ, List.getElem?_cons_zero]; rfl) (by rfl) ?_
               apply Exists.intro
               refine ⟨fun wz hw _ => ?_, ?_⟩
               · have hcz := hw.cells.1
                 go_simp
                 (with_reducible exact Rg.up_value)
               simp only [Act.put, List.setIfInBounds_toArray, List.set_cons_zero, List.set_cons_succ])
              (refine Rr.wr_y (by simp only [List.getElem?_toArray, List.getElem?_cons_succ, List.getElem?_cons_zero]; rfl) (by rfl) ?_
               apply Exists.intro
               refine ⟨fun wz hw _ => ?_, ?_⟩
               · have hcz := hw.cells.1
                 go_simp
                 (with_reducible exact Rg.up_value)
               simp only [Act.put, List.setIfInBounds_toArray, List.set_cons_zero, List.set_cons_succ])
              (refine Rr.wr_y (by simp only [List.getElem?_toArray, List.getElem?_cons_succ, List.getElem?_cons_zero]; rfl) (by rfl) ?_
               apply Exists.intro
               refine ⟨fun wz hw _ => ?_, ?_⟩
               · have hcz := hw.cells.1
                 go_simp
                 (with_reducible exact Rg.up_value)
               simp only [Act.put, List.setIfInBounds_toArray, List.set_cons_zero, List.set_cons_succ])
              (refine Rr.wr_y (by simp only [List.getElem?_toArray, List.getElem?_cons_succ, List.getElem?_cons_zero]; rfl) (by rfl) ?_
               apply Exists.intro
               refine ⟨fun wz hw _ => ?_, ?_⟩
               · have hcz := hw.cells.1
                 go_simp
                 (with_reducible exact Rg.up_value)
               simp only [Act.put, List.setIfInBounds_toArray, List.set_cons_zero, List.set_cons_succ])
              (refine Rr.wr_y (by simp only [List.getElem?_toArray, List.getElem?_cons_succ, List.getElem?_cons_zero]; rfl) (by rfl) ?_
               apply Exists.intro
               refine ⟨fun wz hw _ => ?_, ?_⟩
               · have hcz := hw.cells.1
                 go_simp
                 (with_reducible exact Rg.up_value)
               simp only [Act.put, List.setIfInBounds_toArray, List.set_cons_zero, List.set_cons_succ])
              (refine Rr.wr_y (by simp only [List.getElem?_toArray, List.getElem?_cons_succ, List.getElem?_cons_zero]; rfl) (by rfl) ?_
               apply Exists.intro
               refine ⟨fun wz hw _ => ?_, ?_⟩
               · have hcz := hw.cells.1
                 go_simp
                 (with_reducible exact Rg.up_value)
               simp only [Act.put, List.setIfInBounds_toArray, List.set_cons_zero, List.set_cons_succ])
              (refine Rr.wr_y (by simp only [List.getElem?_toArray, List.getElem?_cons_succ, List.getElem?_cons_zero]; rfl) (by rfl) ?_
               apply Exists.intro
               refine ⟨fun wz hw _ => ?_, ?_⟩
               · have hcz := hw.cells.1
                 go_simp
                 (with_reducible exact Rg.up_value)
               simp only [Act.put, List.setIfInBounds_toArray, List.set_cons_zero, List.set_cons_succ])
              (refine Rr.wr_y (by simp only [List.getElem?_toArray, List.getElem?_cons_succ, List.getElem?_cons_zero]; rfl) (by rfl) ?_
               apply Exists.intro
               refine ⟨fun wz hw _ => ?_, ?_⟩
               · have hcz := hw.cells.1
                 go_simp
                 (with_reducible exact Rg.up_value)
               simp only [Act.put, List.setIfInBounds_toArray, List.set_cons_zero, List.set_cons_succ])
              (refine Rr.wr_y (by simp only [List.getElem?_toArray, List.getElem?_cons_succ, List.getElem?_cons_zero]; rfl) (by rfl) ?_
               apply Exists.intro
               refine ⟨fun wz hw _ => ?_, ?_⟩
               · have hcz := hw.cells.1
                 go_simp
                 (with_reducible exact Rg.up_value)
               simp only [Act.put, List.setIfInBounds_toArray, List.set_cons_zero, List.set_cons_succ])
              (refine Rr.wr_y (by simp only [List.getElem?_toArray, List.getElem?_cons_succ, List.getElem?_cons_zero]; rfl) (by rfl) ?_
               apply Exists.intro
               refine ⟨fun wz hw _ => ?_, ?_⟩
               · have hcz := hw.cells.1
                 go_simp
                 (with_reducible exact Rg.up_value)
               simp only [Act.put, List.setIfInBounds_toArray, List.set_cons_zero, List.set_cons_succ])
              (refine Rr.wr_y (by simp only [List.getElem?_toArray, List.getElem?_cons_succ, List.getElem?_cons_zero]; rfl) (by rfl) ?_
               apply Exists.intro
               refine ⟨fun wz hw _ => ?_, ?_⟩
               · have hcz := hw.cells.1
                 go_simp
                 (with_reducible exact Rg.up_value)
               simp only [Act.put, List.setIfInBounds_toArray, List.set_cons_zero, List.set_cons_succ])
              (refine Rr.wr_y (by simp only [List.getElem?_toArray, List.getElem?_cons_succ, List.getElem?_cons_zero]; rfl) (by rfl) ?_
               apply Exists.intro
               refine ⟨fun wz hw _ => ?_, ?_⟩
               · have hcz := hw.cells.1
                 go_simp
                 (with_reducible exact Rg.up_value)
               simp only [Act.put, List.setIfInBounds_toArray, List.set_cons_zero, List.set_cons_succ])
              (refine Rr.wr_y (by simp only [List.getElem?_toArray, List.getElem?_cons_succ, List.getElem?_cons_zero]; rfl) (by rfl) ?_
               apply Exists.intro
               refine ⟨fun wz hw _ => ?_, ?_⟩
               · have hcz := hw.cells.1
                 go_simp
                 (with_reducible exact Rg.up_value)
               simp only [Act.put, List.setIfInBounds_toArray, List.set_cons_zero, List.set_cons_succ])
              (refine Rr.wr_y (by simp only [List.getElem?_toArray, List.getElem?_cons_succ, List.getElem?_cons_zero]; rfl) (by rfl) ?_
               apply Exists.intro
               refine ⟨fun wz hw _ => ?_, ?_⟩
               · have hcz := hw.cells.1
                 go_simp
                 (with_reducible exact Rg.up_value)
               simp only [Act.put, List.setIfInBounds_toArray, List.set_cons_zero, List.set_cons_succ])
              (refine Rr.wr_y (by simp only [List.getElem?_toArray, List.getElem?_cons_succ, List.getElem?_cons_zero]; rfl) (by rfl) ?_
               apply Exists.intro
               refine ⟨fun wz hw _ => ?_, ?_⟩
               · have hcz := hw.cells.1
                 go_simp
                 (with_reducible exact Rg.up_value)
               simp only [Act.put, List.setIfInBounds_toArray, List.set_cons_zero, List.set_cons_succ])
              (refine Rr.wr_y (by simp only [List.getElem?_toArray, List.getElem?_cons_succ, List.getElem?_cons_zero]; rfl) (by rfl) ?_
               apply Exists.intro
               refine ⟨fun wz hw _ => ?_, ?_⟩
               · have hcz := hw.cells.1
                 go_simp
                 (with_reducible exact Rg.up_value)
               simp only [Act.put, List.setIfInBounds_toArray, List.set_cons_zero, List.set_cons_succ])
              (refine Rr.wr_y (by simp only [List.getElem?_toArray, List.getElem?_cons_succ, List.getElem?_cons_zero]; rfl) (by rfl) ?_
               apply Exists.intro
               refine ⟨fun wz hw _ => ?_, ?_⟩
               · have hcz := hw.cells.1
                 go_simp
                 (with_reducible exact Rg.up_value)
               simp only [Act.put, List.setIfInBounds_toArray, List.set_cons_zero, List.set_cons_succ])
              (refine Rr.wr_y (by simp only [List.getElem?_toArray, List.getElem?_cons_succ, List.getElem?_cons_zero]; rfl) (by rfl) ?_
               apply Exists.intro
               refine ⟨fun wz hw _ => ?_, ?_⟩
               · have hcz := hw.cells.1
                 go_simp
                 (with_reducible exact Rg.up_value)
               simp only [Act.put, List.setIfInBounds_toArray, List.set_cons_zero, List.set_cons_succ])
              refine Rr.wr_nil ?_
              intro wy hy hh
              simp only [List.length_cons, List.length_nil, List.drop_succ_cons, List.drop_zero, Nat.reduceAdd]
              clear hh
              go_wp2
              go_ret
              exact ⟨by rw [HA'.out]; rfl, (by with_reducible repeat (first | exact Ext.refl _ | assumption | apply Ext.drewN | apply Ext.drew | apply Ext.alloc | (refine Ext.setCell ?_ (by simp <;> omega) _) | (refine Ext.trans ?_ (by assumption))))⟩
            · have HA' := Lib.hid (HA.out.trans (if_neg (fun h => h.elim hlo (fun h => h.elim hhi hmo))))
              refine Rr.wp_region ((List.range 22).map (fun i => (i, .y))) (fun _ => (.cells #[] 29, Rg.ptr)) (by kernel_rfl) (by kernel_rfl) ?_
              simp only [List.range, List.range.loop, List.map_cons, List.map_nil]
              (refine Rr.wr_y (by simp only [List.getElem?_toArray, List.getElem?_cons_succ, List.getElem?_cons_zero]; rfl) (by rfl) ?_
               apply Exists.intro
               refine ⟨fun wz hw _ => ?_, ?_⟩
               · have hcz := hw.cells.1
                 go_simp
                 (with_reducible exact Rg.up_value)
               simp only [Act.put, List.setIfInBounds_toArray, List.set_cons_zero, List.set_cons_succ])
              (refine Rr.wr_y (by simp only [List.getElem?_toArray, List.getElem?_cons_succ, List.getElem?_cons_zero]; rfl) (by rfl) ?_
               apply Exists.intro
               refine ⟨fun wz hw _ => ?_, ?_⟩
               · have hcz := hw.cells.1
                 go_simp
                 (with_reducible exact Rg.up_value)
               simp only [Act.put, List.setIfInBounds_toArray, List.set_cons_zero, List.set_cons_succ])
              (refine Rr.wr_y (by simp only [List.getElem?_toArray, List.getElem?_cons_succ, List.getElem?_cons_zero]; rfl) (by rfl) ?_
               apply Exists.intro
               refine ⟨fun wz hw _ => ?_, ?_⟩
               · have hcz := hw.cells.1
                 go_simp
                 (with_reducible exact Rg.up_value)
               simp only [Act.put, List.setIfInBounds_toArray, List.set_cons_zero, List.set_cons_succ])
              (refine Rr.wr_y (by simp only [List.getElem?_toArray, List.getElem?_cons_succ, List.getElem?_cons_zero]; rfl) (by rfl) ?_
               apply Exists.intro
               refine ⟨fun wz hw _ => ?_, ?_⟩
               · have hcz := hw.cells.1
                 go_simp
                 (with_reducible exact Rg.up_value)
               simp only [Act.put, List.setIfInBounds_toArray, List.set_cons_zero, List.set_cons_succ])
              (refine Rr.wr_y (by simp only [List.getElem?_toArray, List.getElem?_cons_succ, List.getElem?_cons_zero]; rfl) (by rfl) ?_
               apply Exists.intro
               refine ⟨fun wz hw _ => ?_, ?_⟩
               · have hcz := hw.cells.1
                 go_simp
                 (with_reducible exact Rg.up_value)
               simp only [Act.put, List.setIfInBounds_toArray, List.set_cons_zero, List.set_cons_succ])
              (refine Rr.wr_y (by simp only [List.getElem?_toArray, List.getElem?_cons_succ, List.getElem?_cons_zero]; rfl) (by rfl) ?_
               apply Exists.intro
               refine ⟨fun wz hw _ => ?_, ?_⟩
               · have hcz := hw.cells.1
                 go_simp
                 (with_reducible exact Rg.up_value)
               simp only [Act.put, List.setIfInBounds_toArray, List.set_cons_zero, List.set_cons_succ])
              (refine Rr.wr_y (by simp only [List.getElem?_toArray, List.getElem?_cons_succ, List.getElem?_cons_zero]; rfl) (by rfl) ?_
               apply Exists.intro
               refine ⟨fun wz hw _ => ?_, ?_⟩
               · have hcz := hw.cells.1
                 go_simp
                 (with_reducible exact Rg.up_value)
               simp only [Act.put, List.setIfInBounds_toArray, List.set_cons_zero, List.set_cons_succ])
              (refine Rr.wr_y (by simp only [List.getElem?_toArray, List.getElem?_cons_succ, List.getElem?_cons_zero]; rfl) (by rfl) ?_
               apply Exists.intro
               refine ⟨fun wz hw _ => ?_, ?_⟩
               · have hcz := hw.cells.1
                 go_simp
                 (with_reducible exact Rg.up_value)
               simp only [Act.put, List.setIfInBounds_toArray, List.set_cons_zero, List.set_cons_succ])
              (refine Rr.wr_y (by simp only [List.getElem?_toArray, List.getElem?_cons_succ, List.getElem?_cons_zero]; rfl) (by rfl) ?_
               apply Exists.intro
               refine ⟨fun wz hw _ => ?_, ?_⟩
               · have hcz := hw.cells.1
                 go_simp
                 (with_reducible exact Rg.up_value)
               simp only [Act.put, List.setIfInBounds_toArray, List.set_cons_zero, List.set_cons_succ])
              (refine Rr.wr_y (by simp only [List.getElem?_toArray, List.getElem?_cons_succ, List.getElem?_cons_zero]; rfl) (by rfl) ?_
               apply Exists.intro
               refine ⟨fun wz hw _ => ?_, ?_⟩
               · have hcz := hw.cells.1
                 go_simp
                 (with_reducible exact Rg.up_value)
               simp only [Act.put, List.setIfInBounds_toArray, List.set_cons_zero, List.set_cons_succ])
              (refine Rr.wr_y (by simp only [List.getElem?_toArray, List.getElem?_cons_succ, List.getElem?_cons_zero]; rfl) (by rfl) ?_
               apply Exists.intro
               refine ⟨fun wz hw _ => ?_, ?_⟩
               · have hcz := hw.cells.1
                 go_simp
                 (with_reducible exact Rg.up_value)
               simp only [Act.put, List.setIfInBounds_toArray, List.set_cons_zero, List.set_cons_succ])
              (refine Rr.wr_y (by simp only [List.getElem?_toArray, List.getElem?_cons_succ, List.getElem?_cons_zero]; rfl) (by rfl) ?_
               apply Exists.intro
               refine ⟨fun wz hw _ => ?_, ?_⟩
               · have hcz := hw.cells.1
                 go_simp
                 (with_reducible exact Rg.up_value)
               simp only [Act.put, List.setIfInBounds_toArray, List.set_cons_zero, List.set_cons_succ])
              (refine Rr.wr_y (by simp only [List.getElem?_toArray, List.getElem?_cons_succ, List.getElem?_cons_zero]; rfl) (by rfl) ?_
               apply Exists.intro
               refine ⟨fun wz hw _ => ?_, ?_⟩
               · have hcz := hw.cells.1
                 go_simp
                 (with_reducible exact Rg.up_value)
               simp only [Act.put, List.setIfInBounds_toArray, List.set_cons_zero, List.set_cons_succ])
              (refine Rr.wr_y (by simp only [List.getElem?_toArray, List.getElem?_cons_succ, List.getElem?_cons_zero]; rfl) (by rfl) ?_
               apply Exists.intro
               refine ⟨fun wz hw _ => ?_, ?_⟩
               · have hcz := hw.cells.1
                 go_simp
                 (with_reducible exact Rg.up_value)
               simp only [Act.put, List.setIfInBounds_toArray, List.set_cons_zero, List.set_cons_succ])
              (refine Rr.wr_y (by simp only [List.getElem?_toArray, List.getElem?_cons_succ, List.getElem?_cons_zero]; rfl) (by rfl) ?_
               apply Exists.intro
               refine ⟨fun wz hw _ => ?_, ?_⟩
               · have hcz := hw.cells.1
                 go_simp
                 (with_reducible exact Rg.up_value)
               simp only [Act.put, List.setIfInBounds_toArray, List.set_cons_zero, List.set_cons_succ])
              (refine Rr.wr_y (by simp only [List.getElem?_toArray, List.getElem?_cons_succ, List.getElem?_cons_zero]; rfl) (by rfl) ?_
               apply Exists.intro
               refine ⟨fun wz hw _ => ?_, ?_⟩
               · have hcz := hw.cells.1
                 go_simp
                 (with_reducible exact Rg.up_value)
               simp only [Act.put, List.setIfInBounds_toArray, List.set_cons_zero, List.set_cons_succ])
              (refine Rr.wr_y (by simp only [List.getElem?_toArray, List.getElem?_cons_succ, List.getElem?_cons_zero]; rfl) (by rfl) ?_
               apply Exists.intro
               refine ⟨fun wz hw _ => ?_, ?_⟩
               · have hcz := hw.cells.1
                 go_simp
                 (with_reducible exact Rg.up_value)
               simp only [Act.put, List.setIfInBounds_toArray, List.set_cons_zero, List.set_cons_succ])
              (refine Rr.wr_y (by simp only [List.getElem?_toArray, List.getElem?_cons_succ, List.getElem?_cons_zero]; rfl) (by rfl) ?_
               apply Exists.intro
               refine ⟨fun wz hw _ => ?_, ?_⟩
               · have hcz := hw.cells.1
                 go_simp
                 (with_reducible exact Rg.up_value)
               simp only [Act.put, List.setIfInBounds_toArray, List.set_cons_zero, List.set_cons_succ])
              (refine Rr.wr_y (by simp only [List.getElem?_toArray, List.getElem?_cons_succ, List.getElem?_cons_zero]; rfl) (by rfl) ?_
               apply Exists.intro
               refine ⟨fun wz hw _ => ?_, ?_⟩
               · have hcz := hw.cells.1
                 go_simp
                 (with_reducible exact Rg.up_value)
               simp only [Act.put, List.setIfInBounds_toArray, List.set_cons_zero, List.set_cons_succ])
              (refine Rr.wr_y (by simp only [List.getElem?_toArray, List.getElem?_cons_succ, List.getElem?_cons_zero]; rfl) (by rfl) ?_
               apply Exists.intro
               refine ⟨fun wz hw _ => ?_, ?_⟩
               · have hcz := hw.cells.1
                 go_simp
                 (with_reducible exact Rg.up_value)
               simp only [Act.put, List.setIfInBounds_toArray, List.set_cons_zero, List.set_cons_succ])
              (refine Rr.wr_y (by simp only [List.getElem?_toArray, List.getElem?_cons_succ, List.getElem?_cons_zero]; rfl) (by rfl) ?_
               apply Exists.intro
               refine ⟨fun wz hw _ => ?_, ?_⟩
               · have hcz := hw.cells.1
                 go_simp
                 (with_reducible exact Rg.up_value)
               simp only [Act.put, List.setIfInBounds_toArray, List.set_cons_zero, List.set_cons_succ])
              (refine Rr.wr_y (by simp only [List.getElem?_toArray, List.getElem?_cons_succ, List.getElem?_cons_zero]; rfl) (by rfl) ?_
               apply Exists.intro
               refine ⟨fun wz hw _ => ?_, ?_⟩
               · have hcz := hw.cells.1
                 go_simp
                 (with_reducible exact Rg.up_value)
               simp only [Act.put, List.setIfInBounds_toArray, List.set_cons_zero, List.set_cons_succ])
              refine Rr.wr_nil ?_
              intro wy hy hh
              simp only [List.length_cons, List.length_nil, List.drop_succ_cons, List.drop_zero, Nat.reduceAdd]
              clear hh
              have hxz := hy
              have hxy := hxw.trans hxz
              have HT2 := Lib.hid ((hxz.block _ (Rg.lt_of_heap HT1.out)).trans HT1.out)
              have HE2 := Lib.hid ((hxz.block _ (Rg.lt_of_heap HE1.out)).trans HE1.out)
              have HC := Lib.hid (H2.out.ext hxy)
              have HR := Lib.hid (H3.out.ext hxy)
              have HV := Lib.hid (H4.out.ext hxy)
              obtain ⟨d1, d2, d3, d4, d5, dl'⟩ := T1.out _ _ HT2.out
              obtain ⟨e1, e3, e4, el'⟩ := ecells HE2.out
              replace e4 : _ = some (Value.slice ea vs.length ec) := e4
              clear H1 H2 H3 H4 HT1 HE1 HA hlo hhi hmo c1 c2 c3 c4 c5 q3 m1 lt le' lb hx0 hx hxw hxz hy hkn hk6 dl el dlr elr d1 d3 d4 d5 e1 e3
              generalize wy = W2 at *
              go_wp2_with (fail)
              go_loopw [7] (fun k wr => ∃ j : Nat, k = .int .i64 j ∧ j ≤ cs.length ∧ Hid (cs.all (okC vs) = (cs.drop j).all (okC vs)) ∧ Ext W2 wr) (fun k _ => cs.length - (intOf k).toNat)
              case atStart => exact ⟨0, by go_num, Nat.zero_le _, Lib.hid rfl, Ext.refl _⟩
              case round =>
                obtain ⟨j, rfl, hj, hall, hx⟩ := hrel
                have d2r := (hx.cells.1 _ _ dl').trans d2
                have dlr' := Nat.lt_of_lt_of_le dl' hx.size
                have e4r := (hx.cells.1 _ _ el').trans e4
                have elr' := Nat.lt_of_lt_of_le el' hx.size
                rcases Nat.lt_or_ge j cs.length with hlt | hge
                · obtain ⟨bc, rfl, hcs⟩ := HC.out.at hx j hlt
                  have hs0 : wr.cell? ⟨bc, j * 5, none⟩ = some (.string cs[j].name) := hcs 0 _ rfl
                  have hs2 : wr.cell? ⟨bc, j * 5 + 2, none⟩ = some (.int .i64 cs[j].low) := hcs 2 _ rfl
                  have hs3 : wr.cell? ⟨bc, j * 5 + 3, none⟩ = some (.int .i64 cs[j].high) := hcs 3 _ rfl
                  have hbc : bc < wr.heap.size := World.block_lt_of_cell? wr _ hs2
                  have HD := Lib.hid (hall.out.trans (all_drop cs (okC vs) j hlt))
                  have hjl : (j : Int) < (cs.length : Int) := by omega
                  have HVr := Lib.hid (HV.out.ext hx)
                  generalize cs[j] = c at *
                  obtain ⟨cn, ck, clo, chi, cle⟩ := c
                  have HK := Lib.hid (Find_any vs cn)
                  obtain ⟨n, m, hnm⟩ : ∃ n m, lkv vs cn = (n, m) := ⟨_, _, rfl⟩
                  have HO : Hid (okC vs ⟨cn, ck, clo, chi, cle⟩ = (decide (m = 1) && decide (clo ≤ n) && decide (n ≤ chi))) := Lib.hid (by unfold okC; simp only [hnm])
                  have hm6 : (m : Int) ≤ 1000000 := by have := lkv_le vs cn; rw [hnm] at this; simp only at this; omega
                  rw [hnm] at HK
                  clear hcs hall hnm e4 d2
                  go_wp2_with (fail)
                  refine Rr.wp_regionE [11] ((List.range 12).map (fun i => (i, .y))) (fun _ => (.cells #[] 29, Rg.ptr)) (fun c a d v w h => by have h' : _ ∧ _ := h; exact ⟨(Rr.put_defers a d v).symm.trans h'.1, h'.2⟩) (by kernel_rfl) (by kernel_rfl) ?_
                  simp only [List.range, List.range.loop, List.map_cons, List.map_nil]
                  (refine Rr.wr_y (by simp only [List.getElem?_toArray, List.getElem?_cons_succ, List.getElem?_cons_zero]; rfl) (by rfl) ?_
                   apply Exists.intro
                   refine ⟨fun wz hw _ => ?_, ?_⟩
                   · have hcz := hw.cells.1
                     go_simp
                     (with_reducible exact Rg.up_value)
                   simp only [Act.put, List.setIfInBounds_toArray, List.set_cons_zero, List.set_cons_succ])
                  (refine Rr.wr_y (by simp only [List.getElem?_toArray, List.getElem?_cons_succ, List.getElem?_cons_zero]; rfl) (by rfl) ?_
                   apply Exists.intro
                   refine ⟨fun wz hw _ => ?_, ?_⟩
                   · have hcz := hw.cells.1
                     go_simp
                     (with_reducible exact Rg.up_value)
                   simp only [Act.put, List.setIfInBounds_toArray, List.set_cons_zero, List.set_cons_succ])
                  (refine Rr.wr_y (by simp only [List.getElem?_toArray, List.getElem?_cons_succ, List.getElem?_cons_zero]; rfl) (by rfl) ?_
                   apply Exists.intro
                   refine ⟨fun wz hw _ => ?_, ?_⟩
                   · have hcz := hw.cells.1
                     go_simp
                     (with_reducible exact Rg.up_value)
                   simp only [Act.put, List.setIfInBounds_toArray, List.set_cons_zero, List.set_cons_succ])
                  (refine Rr.wr_y (by simp only [List.getElem?_toArray, List.getElem?_cons_succ, List.getElem?_cons_zero]; rfl) (by rfl) ?_
                   apply Exists.intro
                   refine ⟨fun wz hw _ => ?_, ?_⟩
                   · have hcz := hw.cells.1
                     go_simp
                     (with_reducible exact Rg.up_value)
                   simp only [Act.put, List.setIfInBounds_toArray, List.set_cons_zero, List.set_cons_succ])
                  (refine Rr.wr_y (by simp only [List.getElem?_toArray, List.getElem?_cons_succ, List.getElem?_cons_zero]; rfl) (by rfl) ?_
                   apply Exists.intro
                   refine ⟨fun wz hw _ => ?_, ?_⟩
                   · have hcz := hw.cells.1
                     go_simp
                     (with_reducible exact Rg.up_value)
                   simp only [Act.put, List.setIfInBounds_toArray, List.set_cons_zero, List.set_cons_succ])
                  (refine Rr.wr_y (by simp only [List.getElem?_toArray, List.getElem?_cons_succ, List.getElem?_cons_zero]; rfl) (by rfl) ?_
                   apply Exists.intro
                   refine ⟨fun wz hw _ => ?_, ?_⟩
                   · have hcz := hw.cells.1
                     go_simp
                     (with_reducible exact Rg.up_value)
                   simp only [Act.put, List.setIfInBounds_toArray, List.set_cons_zero, List.set_cons_succ])
                  (refine Rr.wr_y (by simp only [List.getElem?_toArray, List.getElem?_cons_succ, List.getElem?_cons_zero]; rfl) (by rfl) ?_
                   apply Exists.intro
                   refine ⟨fun wz hw _ => ?_, ?_⟩
                   · have hcz := hw.cells.1
                     go_simp
                     (with_reducible exact Rg.up_value)
                   simp only [Act.put, List.setIfInBounds_toArray, List.set_cons_zero, List.set_cons_succ])
                  (refine Rr.wr_y (by simp only [List.getElem?_toArray, List.getElem?_cons_succ, List.getElem?_cons_zero]; rfl) (by rfl) ?_
                   apply Exists.intro
                   refine ⟨fun wz hw _ => ?_, ?_⟩
                   · have hcz := hw.cells.1
                     go_simp
                     (with_reducible exact Rg.up_value)
                   simp only [Act.put, List.setIfInBounds_toArray, List.set_cons_zero, List.set_cons_succ])
                  (refine Rr.wr_y (by simp only [List.getElem?_toArray, List.getElem?_cons_succ, List.getElem?_cons_zero]; rfl) (by rfl) ?_
                   apply Exists.intro
                   refine ⟨fun wz hw _ => ?_, ?_⟩
                   · have hcz := hw.cells.1
                     go_simp
                     apply Rg.up_enter
                     (with_reducible refine (HK.out _ _ (HVr.out.ext hw)).mono ?_)
                     rintro e w3 ⟨rfl, hb3⟩
                     exact ⟨rfl, hb3⟩
                   simp only [Act.put, List.setIfInBounds_toArray, List.set_cons_zero, List.set_cons_succ])
                  (refine Rr.wr_y (by simp only [List.getElem?_toArray, List.getElem?_cons_succ, List.getElem?_cons_zero]; rfl) (by rfl) ?_
                   apply Exists.intro
                   refine ⟨fun wz hw _ => ?_, ?_⟩
                   · have hcz := hw.cells.1
                     go_simp
                     (with_reducible exact Rg.up_value)
                   simp only [Act.put, List.setIfInBounds_toArray, List.set_cons_zero, List.set_cons_succ])
                  (refine Rr.wr_y (by simp only [List.getElem?_toArray, List.getElem?_cons_succ, List.getElem?_cons_zero]; rfl) (by rfl) ?_
                   apply Exists.intro
                   refine ⟨fun wz hw _ => ?_, ?_⟩
                   · have hcz := hw.cells.1
                     go_simp
                     (with_reducible exact Rg.up_value)
                   simp only [Act.put, List.setIfInBounds_toArray, List.set_cons_zero, List.set_cons_succ])
                  (refine Rr.wr_y (by simp only [List.getElem?_toArray, List.getElem?_cons_succ, List.getElem?_cons_zero]; rfl) (by rfl) ?_
                   apply Exists.intro
                   refine ⟨fun wz hw _ => ?_, ?_⟩
                   · have hcz := hw.cells.1
                     go_simp
                     (with_reducible exact Rg.up_value)
                   simp only [Act.put, List.setIfInBounds_toArray, List.set_cons_zero, List.set_cons_succ])
                  refine Rr.wr_nil ?_
                  intro wy hy hh
                  simp only [List.length_cons, List.length_nil, List.drop_succ_cons, List.drop_zero, Nat.reduceAdd]
                  clear hh
                  have d2y := (hy.cells.1 _ _ dlr').trans d2r
                  have hs2y := (hy.cells.1 _ _ hbc).trans hs2
                  have hs3y := (hy.cells.1 _ _ hbc).trans hs3
                  have l1 := Nat.lt_of_lt_of_le dlr' hy.size
                  have l2 := Nat.lt_of_lt_of_le hbc hy.size
                  clear d2r hs0 hs2 hs3 e4r
                  rcases (show (¬ m = 1) ∨ (m = 1 ∧ n < clo) ∨ (m = 1 ∧ ¬ n < clo ∧ chi < n) ∨ (m = 1 ∧ ¬ n < clo ∧ ¬ chi < n) by omega) with hm | ⟨hm, h1⟩ | ⟨hm, h1, h2⟩ | ⟨hm, h1, h2⟩
                  · have HB := Lib.hid (show admitI ls cs rs low high lot price vs = 16 by rw [HA'.out]; unfold restE; rw [HD.out, HO.out, decide_eq_false hm]; rfl)
                    have hd : ((m : Int) == 1) = false := by rw [beq_eq_false_iff_ne]; omega
                    have hd' : ((m : Int) != 1) = true := by rw [bne_iff_ne]; omega
                    go_wp2
                    go_ret
                    exact ⟨by rw [HB.out]; rfl, (by with_reducible repeat (first | exact Ext.refl _ | assumption | apply Ext.drewN | apply Ext.drew | apply Ext.alloc | (refine Ext.setCell ?_ (by simp <;> omega) _) | (refine Ext.trans ?_ (by assumption))))⟩
                  · subst hm
                    have HB := Lib.hid (show admitI ls cs rs low high lot price vs = 16 by rw [HA'.out]; unfold restE; rw [HD.out, HO.out, decide_eq_false (show ¬ clo ≤ n by omega)]; rfl)
                    go_wp2
                    go_ret
                    exact ⟨by rw [HB.out]; rfl, (by with_reducible repeat (first | exact Ext.refl _ | assumption | apply Ext.drewN | apply Ext.drew | apply Ext.alloc | (refine Ext.setCell ?_ (by simp <;> omega) _) | (refine Ext.trans ?_ (by assumption))))⟩
                  · subst hm
                    have HB := Lib.hid (show admitI ls cs rs low high lot price vs = 16 by rw [HA'.out]; unfold restE; rw [HD.out, HO.out, decide_eq_true (show clo ≤ n by omega), decide_eq_false (show ¬ n ≤ chi by omega)]; rfl)
                    go_wp2
                    go_ret
                    exact ⟨by rw [HB.out]; rfl, (by with_reducible repeat (first | exact Ext.refl _ | assumption | apply Ext.drewN | apply Ext.drew | apply Ext.alloc | (refine Ext.setCell ?_ (by simp <;> omega) _) | (refine Ext.trans ?_ (by assumption))))⟩
                  · subst hm
                    have HB := Lib.hid (show cs.all (okC vs) = (cs.drop (j + 1)).all (okC vs) by rw [HD.out, HO.out, decide_eq_true (show clo ≤ n by omega), decide_eq_true (show n ≤ chi by omega)]; rfl)
                    go_wp2
                    go_roundw
                    case rel => exact ⟨j + 1, by go_num, by omega, HB, (by with_reducible repeat (first | exact Ext.refl _ | assumption | apply Ext.drewN | apply Ext.drew | apply Ext.alloc | (refine Ext.setCell ?_ (by simp <;> omega) _) | (refine Ext.trans ?_ (by assumption))))⟩
                    case measure => simp [intOf]; omega
                · have HA2 : Hid (admitI ls cs rs low high lot price vs = if vs.all (fun v => knownC cs v.1) = false then 13 else reqsE vs rs) := Lib.hid (by
                    have h : cs.all (okC vs) = true := by rw [hall.out, List.drop_eq_nil_of_le hge]; rfl
                    rw [HA'.out]; unfold restE; rw [if_neg (by rw [h]; decide)])
                  have hjl : ¬ (j : Int) < (cs.length : Int) := by omega
                  obtain ⟨W3, rfl⟩ : ∃ W3 : World, W3 = wr := ⟨_, rfl⟩
                  have HT3 := Lib.hid ((hx.block _ dl').trans HT2.out)
                  have HE3 := Lib.hid ((hx.block _ el').trans HE2.out)
                  have HC3 := Lib.hid (HC.out.ext hx)
                  have HR3 := Lib.hid (HR.out.ext hx)
                  have HV3 := Lib.hid (HV.out.ext hx)
                  have hxy3 := hxy.trans hx
                  have t3' := (T1.out _ _ HT3.out).2.2.1
                  have tl' := (T1.out _ _ HT3.out).2.2.2.2.2
                  obtain ⟨-, -, e4', el3⟩ := ecells HE3.out
                  replace e4' : _ = some (Value.slice ea vs.length ec) := e4'
                  clear HT2 HE2 HC HR HV HA' hall hx hxy hge dl' el' e4 HE3 d2 e4r elr'
                  go_wp2_with (fail)
                  clear d2r dlr'
                  go_loopw [10] (fun k wr => ∃ j : Nat, k = .int .i64 j ∧ j ≤ vs.length ∧ Hid (vs.all (fun v => knownC cs v.1) = (vs.drop j).all (fun v => knownC cs v.1)) ∧ Ext W3 wr) (fun k _ => vs.length - (intOf k).toNat)
                  case atStart => exact ⟨0, by go_num, Nat.zero_le _, Lib.hid rfl, Ext.refl _⟩
                  case round =>
                    obtain ⟨i, rfl, hi, hall, hx⟩ := hrel
                    have HTr := Lib.hid ((hx.block _ tl').trans HT3.out)
                    have ltr := Nat.lt_of_lt_of_le tl' hx.size
                    have e4r := (hx.cells.1 _ _ el3).trans e4'
                    have elr := Nat.lt_of_lt_of_le el3 hx.size
                    rcases Nat.lt_or_ge i vs.length with hlt | hge
                    · obtain ⟨bv, rfl, hs0, hs1⟩ := VRd.at HV3.out hx i hlt
                      have hbv : bv < wr.heap.size := World.block_lt_of_cell? wr _ hs1
                      have HD := Lib.hid (hall.out.trans (all_drop vs (fun v => knownC cs v.1) i hlt))
                      have hil : (i : Int) < (vs.length : Int) := by omega
                      have HCr := Lib.hid (HC3.out.ext hx)
                      generalize vs[i] = u at *
                      obtain ⟨un, uz⟩ := u
                      have HK := Lib.hid (KC.out un)
                      clear hall e4' t3'
                      cases hkn : knownC cs un
                      · rw [hkn] at HK
                        have HB := Lib.hid (show admitI ls cs rs low high lot price vs = 13 by rw [HA2.out, HD.out]; simp only [hkn]; rfl)
                        clear hkn
                        go_wp2_with (fail)
                        refine Rr.wp_region ((List.range 8).map (fun i => (i, .y))) (fun _ => (.cells #[] 29, Rg.ptr)) (by kernel_rfl) (by kernel_rfl) ?_
                        simp only [List.range, List.range.loop, List.map_cons, List.map_nil]
                        (refine Rr.wr_y (by simp only [List.getElem?_toArray, List.getElem?_cons_succ, List.getElem?_cons_zero]; rfl) (by rfl) ?_
                         apply Exists.intro
                         refine ⟨fun wz hw _ => ?_, ?_⟩
                         · have hcz := hw.cells.1
                           exact up_row (by rfl) ((hw.block _ (Rg.lt_of_heap HTr.out)).trans HTr.out) Try.underlying68 (by kernel_rfl)
                         simp only [Act.put, List.setIfInBounds_toArray, List.set_cons_zero, List.set_cons_succ])
                        (refine Rr.wr_y (by simp only [List.getElem?_toArray, List.getElem?_cons_succ, List.getElem?_cons_zero]; rfl) (by rfl) ?_
                         apply Exists.intro
                         refine ⟨fun wz hw _ => ?_, ?_⟩
                         · have hcz := hw.cells.1
                           go_simp
                           (with_reducible exact Rg.up_value)
                         simp only [Act.put, List.setIfInBounds_toArray, List.set_cons_zero, List.set_cons_succ])
                        (refine Rr.wr_y (by simp only [List.getElem?_toArray, List.getElem?_cons_succ, List.getElem?_cons_zero]; rfl) (by rfl) ?_
                         apply Exists.intro
                         refine ⟨fun wz hw _ => ?_, ?_⟩
                         · have hcz := hw.cells.1
                           go_simp
                           (with_reducible exact Rg.up_value)
                         simp only [Act.put, List.setIfInBounds_toArray, List.set_cons_zero, List.set_cons_succ])
                        (refine Rr.wr_y (by simp only [List.getElem?_toArray, List.getElem?_cons_succ, List.getElem?_cons_zero]; rfl) (by rfl) ?_
                         apply Exists.intro
                         refine ⟨fun wz hw _ => ?_, ?_⟩
                         · have hcz := hw.cells.1
                           go_simp
                           (with_reducible exact Rg.up_value)
                         simp only [Act.put, List.setIfInBounds_toArray, List.set_cons_zero, List.set_cons_succ])
                        (refine Rr.wr_y (by simp only [List.getElem?_toArray, List.getElem?_cons_succ, List.getElem?_cons_zero]; rfl) (by rfl) ?_
                         apply Exists.intro
                         refine ⟨fun wz hw _ => ?_, ?_⟩
                         · have hcz := hw.cells.1
                           go_simp
                           (with_reducible exact Rg.up_value)
                         simp only [Act.put, List.setIfInBounds_toArray, List.set_cons_zero, List.set_cons_succ])
                        (refine Rr.wr_y (by simp only [List.getElem?_toArray, List.getElem?_cons_succ, List.getElem?_cons_zero]; rfl) (by rfl) ?_
                         apply Exists.intro
                         refine ⟨fun wz hw _ => ?_, ?_⟩
                         · have hcz := hw.cells.1
                           go_simp
                           (with_reducible exact Rg.up_value)
                         simp only [Act.put, List.setIfInBounds_toArray, List.set_cons_zero, List.set_cons_succ])
                        (refine Rr.wr_y (by simp only [List.getElem?_toArray, List.getElem?_cons_succ, List.getElem?_cons_zero]; rfl) (by rfl) ?_
                         apply Exists.intro
                         refine ⟨fun wz hw _ => ?_, ?_⟩
                         · have hcz := hw.cells.1
                           go_simp
                           (with_reducible exact Rg.up_value)
                         simp only [Act.put, List.setIfInBounds_toArray, List.set_cons_zero, List.set_cons_succ])
                        (refine Rr.wr_y (by simp only [List.getElem?_toArray, List.getElem?_cons_succ, List.getElem?_cons_zero]; rfl) (by rfl) ?_
                         apply Exists.intro
                         refine ⟨fun wz hw _ => ?_, ?_⟩
                         · have hcz := hw.cells.1
                           go_simp
                           apply Rg.up_enter
                           (with_reducible refine (HK.out _ (HCr.out.ext hw)).mono ?_)
                           rintro e w3 ⟨rfl, hb3⟩
                           exact ⟨rfl, hb3⟩
                         simp only [Act.put, List.setIfInBounds_toArray, List.set_cons_zero, List.set_cons_succ])
                        refine Rr.wr_nil ?_
                        intro wy hy hh
                        simp only [List.length_cons, List.length_nil, List.drop_succ_cons, List.drop_zero, Nat.reduceAdd]
                        clear hh
                        go_wp2
                        go_ret
                        exact ⟨by rw [HB.out]; rfl, (by with_reducible repeat (first | exact Ext.refl _ | assumption | apply Ext.drewN | apply Ext.drew | apply Ext.alloc | (refine Ext.setCell ?_ (by simp <;> omega) _) | (refine Ext.trans ?_ (by assumption))))⟩
                      · rw [hkn] at HK
                        have HB := Lib.hid (show vs.all (fun v => knownC cs v.1) = (vs.drop (i + 1)).all (fun v => knownC cs v.1) by rw [HD.out]; simp only [hkn]; rfl)
                        clear hkn
                        go_wp2_with (fail)
                        refine Rr.wp_region ((List.range 8).map (fun i => (i, .y))) (fun _ => (.cells #[] 29, Rg.ptr)) (by kernel_rfl) (by kernel_rfl) ?_
                        simp only [List.range, List.range.loop, List.map_cons, List.map_nil]
                        (refine Rr.wr_y (by simp only [List.getElem?_toArray, List.getElem?_cons_succ, List.getElem?_cons_zero]; rfl) (by rfl) ?_
                         apply Exists.intro
                         refine ⟨fun wz hw _ => ?_, ?_⟩
                         · have hcz := hw.cells.1
                           exact up_row (by rfl) ((hw.block _ (Rg.lt_of_heap HTr.out)).trans HTr.out) Try.underlying68 (by kernel_rfl)
                         simp only [Act.put, List.setIfInBounds_toArray, List.set_cons_zero, List.set_cons_succ])
                        (refine Rr.wr_y (by simp only [List.getElem?_toArray, List.getElem?_cons_succ, List.getElem?_cons_zero]; rfl) (by rfl) ?_
                         apply Exists.intro
                         refine ⟨fun wz hw _ => ?_, ?_⟩
                         · have hcz := hw.cells.1
                           go_simp
                           (with_reducible exact Rg.up_value)
                         simp only [Act.put, List.setIfInBounds_toArray, List.set_cons_zero, List.set_cons_succ])
                        (refine Rr.wr_y (by simp only [List.getElem?_toArray, List.getElem?_cons_succ, List.getElem?_cons_zero]; rfl) (by rfl) ?_
                         apply Exists.intro
                         refine ⟨fun wz hw _ => ?_, ?_⟩
                         · have hcz := hw.cells.1
                           go_simp
                           (with_reducible exact Rg.up_value)
                         simp only [Act.put, List.setIfInBounds_toArray, List.set_cons_zero, List.set_cons_succ])
                        (refine Rr.wr_y (by simp only [List.getElem?_toArray, List.getElem?_cons_succ, List.getElem?_cons_zero]; rfl) (by rfl) ?_
                         apply Exists.intro
                         refine ⟨fun wz hw _ => ?_, ?_⟩
                         · have hcz := hw.cells.1
                           go_simp
                           (with_reducible exact Rg.up_value)
                         simp only [Act.put, List.setIfInBounds_toArray, List.set_cons_zero, List.set_cons_succ])
                        (refine Rr.wr_y (by simp only [List.getElem?_toArray, List.getElem?_cons_succ, List.getElem?_cons_zero]; rfl) (by rfl) ?_
                         apply Exists.intro
                         refine ⟨fun wz hw _ => ?_, ?_⟩
                         · have hcz := hw.cells.1
                           go_simp
                           (with_reducible exact Rg.up_value)
                         simp only [Act.put, List.setIfInBounds_toArray, List.set_cons_zero, List.set_cons_succ])
                        (refine Rr.wr_y (by simp only [List.getElem?_toArray, List.getElem?_cons_succ, List.getElem?_cons_zero]; rfl) (by rfl) ?_
                         apply Exists.intro
                         refine ⟨fun wz hw _ => ?_, ?_⟩
                         · have hcz := hw.cells.1
                           go_simp
                           (with_reducible exact Rg.up_value)
                         simp only [Act.put, List.setIfInBounds_toArray, List.set_cons_zero, List.set_cons_succ])
                        (refine Rr.wr_y (by simp only [List.getElem?_toArray, List.getElem?_cons_succ, List.getElem?_cons_zero]; rfl) (by rfl) ?_
                         apply Exists.intro
                         refine ⟨fun wz hw _ => ?_, ?_⟩
                         · have hcz := hw.cells.1
                           go_simp
                           (with_reducible exact Rg.up_value)
                         simp only [Act.put, List.setIfInBounds_toArray, List.set_cons_zero, List.set_cons_succ])
                        (refine Rr.wr_y (by simp only [List.getElem?_toArray, List.getElem?_cons_succ, List.getElem?_cons_zero]; rfl) (by rfl) ?_
                         apply Exists.intro
                         refine ⟨fun wz hw _ => ?_, ?_⟩
                         · have hcz := hw.cells.1
                           go_simp
                           apply Rg.up_enter
                           (with_reducible refine (HK.out _ (HCr.out.ext hw)).mono ?_)
                           rintro e w3 ⟨rfl, hb3⟩
                           exact ⟨rfl, hb3⟩
                         simp only [Act.put, List.setIfInBounds_toArray, List.set_cons_zero, List.set_cons_succ])
                        refine Rr.wr_nil ?_
                        intro wy hy hh
                        simp only [List.length_cons, List.length_nil, List.drop_succ_cons, List.drop_zero, Nat.reduceAdd]
                        clear hh
                        go_wp2
                        go_roundw
                        case rel => exact ⟨i + 1, by go_num, by omega, HB, (by with_reducible repeat (first | exact Ext.refl _ | assumption | apply Ext.drewN | apply Ext.drew | apply Ext.alloc | (refine Ext.setCell ?_ (by simp <;> omega) _) | (refine Ext.trans ?_ (by assumption))))⟩
                        case measure => simp [intOf]; omega
                    · have HA3 : Hid (admitI ls cs rs low high lot price vs = reqsE vs rs) := Lib.hid (by
                        have h : vs.all (fun v => knownC cs v.1) = true := by rw [hall.out, List.drop_eq_nil_of_le hge]; rfl
                        rw [HA2.out, if_neg (by rw [h]; decide)])
                      have hil : ¬ (i : Int) < (vs.length : Int) := by omega
                      obtain ⟨W4, rfl⟩ : ∃ W4 : World, W4 = wr := ⟨_, rfl⟩
                      have HR4 := Lib.hid (HR3.out.ext hx)
                      have HV4 := Lib.hid (HV3.out.ext hx)
                      have hxy4 := hxy3.trans hx
                      have t3r := (hx.cells.1 _ _ tl').trans t3'
                      clear HC3 HR3 HV3 HA2 hall hx hxy3 hge HT3 t3' e4' el3 tl' HTr KC
                      go_wp2_with (fail)
                      go_loopw [12] (fun k wr => ∃ j : Nat, k = .int .i64 j ∧ j ≤ rs.length ∧ Hid (reqsE vs rs = reqsE vs (rs.drop j)) ∧ Ext W4 wr) (fun k _ => rs.length - (intOf k).toNat)
                      case atStart => exact ⟨0, by go_num, Nat.zero_le _, Lib.hid rfl, Ext.refl _⟩
                      case round =>
                        obtain ⟨i, rfl, hi, hall, hx⟩ := hrel
                        have t3z := (hx.cells.1 _ _ ltr).trans t3r
                        have ltz := Nat.lt_of_lt_of_le ltr hx.size
                        have g4 := (hx.cells.1 _ _ elr).trans e4r
                        have lE := Nat.lt_of_lt_of_le elr hx.size
                        rcases Nat.lt_or_ge i rs.length with hlt | hge
                        · obtain ⟨br, rfl, hcs⟩ := HR4.out.at hx i hlt
                          have hs0 : wr.cell? ⟨br, i * 3, none⟩ = some (.string rs[i].name) := hcs 0 _ rfl
                          have hs1 : wr.cell? ⟨br, i * 3 + 1, none⟩ = some (.string rs[i].rel) := hcs 1 _ rfl
                          have hs2 : wr.cell? ⟨br, i * 3 + 2, none⟩ = some (.int .i64 rs[i].value) := hcs 2 _ rfl
                          have hbr : br < wr.heap.size := World.block_lt_of_cell? wr _ hs1
                          have HD := Lib.hid (HA3.out.trans (hall.out.trans (reqs_drop vs rs i hlt)))
                          have HD' := Lib.hid (hall.out.trans (reqs_drop vs rs i hlt))
                          have hil' : (i : Int) < (rs.length : Int) := by omega
                          have HVr := Lib.hid (HV4.out.ext hx)
                          generalize rs[i] = q at *
                          obtain ⟨rn, rl, rv⟩ := q
                          have HK := Lib.hid (Find_any vs rn)
                          obtain ⟨n, m, hnm⟩ : ∃ n m, lkv vs rn = (n, m) := ⟨_, _, rfl⟩
                          have hm6 : (m : Int) ≤ 1000000 := by have := lkv_le vs rn; rw [hnm] at this; simp only at this; omega
                          have HN := Lib.hid hnm
                          rw [hnm] at HK
                          clear hcs hall hnm t3r e4r
                          go_wp2_with (fail)
                          refine Rr.wp_regionE [11] ((List.range 12).map (fun i => (i, .y))) (fun _ => (.cells #[] 29, Rg.ptr)) (fun c a d v w h => by have h' : _ ∧ _ := h; exact ⟨(Rr.put_defers a d v).symm.trans h'.1, h'.2⟩) (by kernel_rfl) (by kernel_rfl) ?_
                          simp only [List.range, List.range.loop, List.map_cons, List.map_nil]
                          (refine Rr.wr_y (by simp only [List.getElem?_toArray, List.getElem?_cons_succ, List.getElem?_cons_zero]; rfl) (by rfl) ?_
                           apply Exists.intro
                           refine ⟨fun wz hw _ => ?_, ?_⟩
                           · have hcz := hw.cells.1
                             go_simp
                             (with_reducible exact Rg.up_value)
                           simp only [Act.put, List.setIfInBounds_toArray, List.set_cons_zero, List.set_cons_succ])
                          (refine Rr.wr_y (by simp only [List.getElem?_toArray, List.getElem?_cons_succ, List.getElem?_cons_zero]; rfl) (by rfl) ?_
                           apply Exists.intro
                           refine ⟨fun wz hw _ => ?_, ?_⟩
                           · have hcz := hw.cells.1
                             go_simp
                             (with_reducible exact Rg.up_value)
                           simp only [Act.put, List.setIfInBounds_toArray, List.set_cons_zero, List.set_cons_succ])
                          (refine Rr.wr_y (by simp only [List.getElem?_toArray, List.getElem?_cons_succ, List.getElem?_cons_zero]; rfl) (by rfl) ?_
                           apply Exists.intro
                           refine ⟨fun wz hw _ => ?_, ?_⟩
                           · have hcz := hw.cells.1
                             go_simp
                             (with_reducible exact Rg.up_value)
                           simp only [Act.put, List.setIfInBounds_toArray, List.set_cons_zero, List.set_cons_succ])
                          (refine Rr.wr_y (by simp only [List.getElem?_toArray, List.getElem?_cons_succ, List.getElem?_cons_zero]; rfl) (by rfl) ?_
                           apply Exists.intro
                           refine ⟨fun wz hw _ => ?_, ?_⟩
                           · have hcz := hw.cells.1
                             go_simp
                             (with_reducible exact Rg.up_value)
                           simp only [Act.put, List.setIfInBounds_toArray, List.set_cons_zero, List.set_cons_succ])
                          (refine Rr.wr_y (by simp only [List.getElem?_toArray, List.getElem?_cons_succ, List.getElem?_cons_zero]; rfl) (by rfl) ?_
                           apply Exists.intro
                           refine ⟨fun wz hw _ => ?_, ?_⟩
                           · have hcz := hw.cells.1
                             go_simp
                             (with_reducible exact Rg.up_value)
                           simp only [Act.put, List.setIfInBounds_toArray, List.set_cons_zero, List.set_cons_succ])
                          (refine Rr.wr_y (by simp only [List.getElem?_toArray, List.getElem?_cons_succ, List.getElem?_cons_zero]; rfl) (by rfl) ?_
                           apply Exists.intro
                           refine ⟨fun wz hw _ => ?_, ?_⟩
                           · have hcz := hw.cells.1
                             go_simp
                             (with_reducible exact Rg.up_value)
                           simp only [Act.put, List.setIfInBounds_toArray, List.set_cons_zero, List.set_cons_succ])
                          (refine Rr.wr_y (by simp only [List.getElem?_toArray, List.getElem?_cons_succ, List.getElem?_cons_zero]; rfl) (by rfl) ?_
                           apply Exists.intro
                           refine ⟨fun wz hw _ => ?_, ?_⟩
                           · have hcz := hw.cells.1
                             go_simp
                             (with_reducible exact Rg.up_value)
                           simp only [Act.put, List.setIfInBounds_toArray, List.set_cons_zero, List.set_cons_succ])
                          (refine Rr.wr_y (by simp only [List.getElem?_toArray, List.getElem?_cons_succ, List.getElem?_cons_zero]; rfl) (by rfl) ?_
                           apply Exists.intro
                           refine ⟨fun wz hw _ => ?_, ?_⟩
                           · have hcz := hw.cells.1
                             go_simp
                             (with_reducible exact Rg.up_value)
                           simp only [Act.put, List.setIfInBounds_toArray, List.set_cons_zero, List.set_cons_succ])
                          (refine Rr.wr_y (by simp only [List.getElem?_toArray, List.getElem?_cons_succ, List.getElem?_cons_zero]; rfl) (by rfl) ?_
                           apply Exists.intro
                           refine ⟨fun wz hw _ => ?_, ?_⟩
                           · have hcz := hw.cells.1
                             go_simp
                             apply Rg.up_enter
                             (with_reducible refine (HK.out _ _ (HVr.out.ext hw)).mono ?_)
                             rintro e w3 ⟨rfl, hb3⟩
                             exact ⟨rfl, hb3⟩
                           simp only [Act.put, List.setIfInBounds_toArray, List.set_cons_zero, List.set_cons_succ])
                          (refine Rr.wr_y (by simp only [List.getElem?_toArray, List.getElem?_cons_succ, List.getElem?_cons_zero]; rfl) (by rfl) ?_
                           apply Exists.intro
                           refine ⟨fun wz hw _ => ?_, ?_⟩
                           · have hcz := hw.cells.1
                             go_simp
                             (with_reducible exact Rg.up_value)
                           simp only [Act.put, List.setIfInBounds_toArray, List.set_cons_zero, List.set_cons_succ])
                          (refine Rr.wr_y (by simp only [List.getElem?_toArray, List.getElem?_cons_succ, List.getElem?_cons_zero]; rfl) (by rfl) ?_
                           apply Exists.intro
                           refine ⟨fun wz hw _ => ?_, ?_⟩
                           · have hcz := hw.cells.1
                             go_simp
                             (with_reducible exact Rg.up_value)
                           simp only [Act.put, List.setIfInBounds_toArray, List.set_cons_zero, List.set_cons_succ])
                          (refine Rr.wr_y (by simp only [List.getElem?_toArray, List.getElem?_cons_succ, List.getElem?_cons_zero]; rfl) (by rfl) ?_
                           apply Exists.intro
                           refine ⟨fun wz hw _ => ?_, ?_⟩
                           · have hcz := hw.cells.1
                             go_simp
                             (with_reducible exact Rg.up_value)
                           simp only [Act.put, List.setIfInBounds_toArray, List.set_cons_zero, List.set_cons_succ])
                          refine Rr.wr_nil ?_
                          intro wy hy hh
                          simp only [List.length_cons, List.length_nil, List.drop_succ_cons, List.drop_zero, Nat.reduceAdd]
                          clear hh
                          have t3y := (hy.cells.1 _ _ ltz).trans t3z
                          have b1 := (hy.cells.1 _ _ hbr).trans hs1
                          have b2 := (hy.cells.1 _ _ hbr).trans hs2
                          have l1 := Nat.lt_of_lt_of_le ltz hy.size
                          have l2 := Nat.lt_of_lt_of_le hbr hy.size
                          clear t3z hs0 hs1 hs2 g4
                          by_cases hm : m = 0
                          · have HB := Lib.hid (show admitI ls cs rs low high lot price vs = 13 by rw [HD.out, reqE_none HN.out hm]; rfl)
                            subst hm
                            go_wp2
                            go_ret
                            exact ⟨by rw [HB.out]; rfl, (by with_reducible repeat (first | exact Ext.refl _ | assumption | apply Ext.drewN | apply Ext.drew | apply Ext.alloc | (refine Ext.setCell ?_ (by simp <;> omega) _) | (refine Ext.trans ?_ (by assumption))))⟩
                          · have hd : ((m : Int) == 0) = false := by rw [beq_eq_false_iff_ne]; omega
                            have Hm := Lib.hid hm
                            clear hm
                            cases q1 : (rl.toList == [60, 61])
                            · have q1' : (rl.toList != [60, 61]) = true := by rw [bne, q1]; rfl
                              cases q2 : (rl.toList == [62, 61])
                              · have q2' : (rl.toList != [62, 61]) = true := by rw [bne, q2]; rfl
                                have HB := Lib.hid (show admitI ls cs rs low high lot price vs = 1 by rw [HD.out, reqE_arg HN.out Hm.out q1 q2]; rfl)
                                go_wp2
                                go_ret
                                exact ⟨by rw [HB.out]; rfl, (by with_reducible repeat (first | exact Ext.refl _ | assumption | apply Ext.drewN | apply Ext.drew | apply Ext.alloc | (refine Ext.setCell ?_ (by simp <;> omega) _) | (refine Ext.trans ?_ (by assumption))))⟩
                              · have q2' : (rl.toList != [62, 61]) = false := by rw [bne, q2]; rfl
                                by_cases hv : n < rv
                                · have HB := Lib.hid (show admitI ls cs rs low high lot price vs = 37 by rw [HD.out, reqE_out HN.out Hm.out (.inr ⟨q2, hv⟩)]; rfl)
                                  go_wp2
                                  go_ret
                                  exact ⟨by rw [HB.out]; rfl, (by with_reducible repeat (first | exact Ext.refl _ | assumption | apply Ext.drewN | apply Ext.drew | apply Ext.alloc | (refine Ext.setCell ?_ (by simp <;> omega) _) | (refine Ext.trans ?_ (by assumption))))⟩
                                · have HB := Lib.hid (show reqsE vs rs = reqsE vs (rs.drop (i + 1)) by rw [HD'.out, if_pos (reqE_zero HN.out Hm.out (fun h => by rw [q2] at h; simp at h) (fun h => h.elim (fun h => by rw [q1] at h; simp at h) (fun h => hv h.2)))])
                                  go_wp2
                                  go_roundw
                                  case rel => exact ⟨i + 1, by go_num, by omega, HB, (by with_reducible repeat (first | exact Ext.refl _ | assumption | apply Ext.drewN | apply Ext.drew | apply Ext.alloc | (refine Ext.setCell ?_ (by simp <;> omega) _) | (refine Ext.trans ?_ (by assumption))))⟩
                                  case measure => simp [intOf]; omega
                            · have q1' : (rl.toList != [60, 61]) = false := by rw [bne, q1]; rfl
                              have q2 : (rl.toList == [62, 61]) = false := by rw [eq_of_beq q1]; decide
                              by_cases hv : rv < n
                              · have HB := Lib.hid (show admitI ls cs rs low high lot price vs = 37 by rw [HD.out, reqE_out HN.out Hm.out (.inl ⟨q1, hv⟩)]; rfl)
                                go_wp2
                                go_ret
                                exact ⟨by rw [HB.out]; rfl, (by with_reducible repeat (first | exact Ext.refl _ | assumption | apply Ext.drewN | apply Ext.drew | apply Ext.alloc | (refine Ext.setCell ?_ (by simp <;> omega) _) | (refine Ext.trans ?_ (by assumption))))⟩
                              · have HB := Lib.hid (show reqsE vs rs = reqsE vs (rs.drop (i + 1)) by rw [HD'.out, if_pos (reqE_zero HN.out Hm.out (fun h => by rw [q1] at h; simp at h) (fun h => h.elim (fun h => hv h.2) (fun h => by rw [q2] at h; simp at h)))])
                                go_wp2
                                go_roundw
                                case rel => exact ⟨i + 1, by go_num, by omega, HB, (by with_reducible repeat (first | exact Ext.refl _ | assumption | apply Ext.drewN | apply Ext.drew | apply Ext.alloc | (refine Ext.setCell ?_ (by simp <;> omega) _) | (refine Ext.trans ?_ (by assumption))))⟩
                                case measure => simp [intOf]; omega
                        · have HB := Lib.hid (show admitI ls cs rs low high lot price vs = 0 by rw [HA3.out, hall.out, List.drop_eq_nil_of_le hge]; rfl)
                          have hil' : ¬ (i : Int) < (rs.length : Int) := by omega
                          go_wp2
                          go_ret
                          exact ⟨by rw [HB.out]; rfl, (by with_reducible repeat (first | exact Ext.refl _ | assumption | apply Ext.drewN | apply Ext.drew | apply Ext.alloc | (refine Ext.setCell ?_ (by simp <;> omega) _) | (refine Ext.trans ?_ (by assumption))))⟩
    · obtain ⟨i, rfl⟩ : ∃ i, j = i + 1 := ⟨j - 1, by omega⟩
      obtain ⟨b, rfl, hcs⟩ := H1.out.at (hx0.trans hx) i (by omega)
      have hc0 : wr.cell? ⟨b, i * 2, none⟩ = some (.int .i64 ls[i].1) := hcs 0 _ rfl
      have hb := World.block_lt_of_cell? wr _ hc0
      have HS := Lib.hid (idxFrom_step (p := lotP ls lot) (n := ls.length) (k := i) (by omega))
      rw [lotP_spec ls lot i (by omega)] at HS
      have hij : ((i + 1 : Nat) : Int) - 1 = (i : Int) := by omega
      rw [hij]
      have hil : (i : Int) < (ls.length : Int) := by omega
      generalize ls[i].1 = id at *
      generalize idxFrom (lotP ls lot) ls.length (ls.length - (i + 1)) = z at *
      clear hcs hij d1 d2 d3 d4 d5 e1 e3 e4
      by_cases hq : id = lot
      · have hd : (id == lot) = true := by rw [beq_iff_eq]; exact hq
        have HZ := Lib.hid (show idxFrom (lotP ls lot) ls.length (ls.length - i) = (i : Int) by rw [HS.out, if_pos hd])
        clear hq
        go_wp2_with (fail)
        refine Rr.wp_region ((List.range 8).map (fun i => (i, .y))) (fun _ => (.cells #[] 29, Rg.ptr)) (by kernel_rfl) (by kernel_rfl) ?_
        simp only [List.range, List.range.loop, List.map_cons, List.map_nil]
        (refine Rr.wr_y (by simp only [List.getElem?_toArray, List.getElem?_cons_succ, List.getElem?_cons_zero]; rfl) (by rfl) ?_
         apply Exists.intro
         refine ⟨fun wz hw _ => ?_, ?_⟩
         · have hcz := hw.cells.1
           go_simp
           (with_reducible exact Rg.up_value)
         simp only [Act.put, List.setIfInBounds_toArray, List.set_cons_zero, List.set_cons_succ])
        (refine Rr.wr_y (by simp only [List.getElem?_toArray, List.getElem?_cons_succ, List.getElem?_cons_zero]; rfl) (by rfl) ?_
         apply Exists.intro
         refine ⟨fun wz hw _ => ?_, ?_⟩
         · have hcz := hw.cells.1
           go_simp
           (with_reducible exact Rg.up_value)
         simp only [Act.put, List.setIfInBounds_toArray, List.set_cons_zero, List.set_cons_succ])
        (refine Rr.wr_y (by simp only [List.getElem?_toArray, List.getElem?_cons_succ, List.getElem?_cons_zero]; rfl) (by rfl) ?_
         apply Exists.intro
         refine ⟨fun wz hw _ => ?_, ?_⟩
         · have hcz := hw.cells.1
           go_simp
           (with_reducible exact Rg.up_value)
         simp only [Act.put, List.setIfInBounds_toArray, List.set_cons_zero, List.set_cons_succ])
        (refine Rr.wr_y (by simp only [List.getElem?_toArray, List.getElem?_cons_succ, List.getElem?_cons_zero]; rfl) (by rfl) ?_
         apply Exists.intro
         refine ⟨fun wz hw _ => ?_, ?_⟩
         · have hcz := hw.cells.1
           go_simp
           (with_reducible exact Rg.up_value)
         simp only [Act.put, List.setIfInBounds_toArray, List.set_cons_zero, List.set_cons_succ])
        (refine Rr.wr_y (by simp only [List.getElem?_toArray, List.getElem?_cons_succ, List.getElem?_cons_zero]; rfl) (by rfl) ?_
         apply Exists.intro
         refine ⟨fun wz hw _ => ?_, ?_⟩
         · have hcz := hw.cells.1
           go_simp
           (with_reducible exact Rg.up_value)
         simp only [Act.put, List.setIfInBounds_toArray, List.set_cons_zero, List.set_cons_succ])
        (refine Rr.wr_y (by simp only [List.getElem?_toArray, List.getElem?_cons_succ, List.getElem?_cons_zero]; rfl) (by rfl) ?_
         apply Exists.intro
         refine ⟨fun wz hw _ => ?_, ?_⟩
         · have hcz := hw.cells.1
           go_simp
           (with_reducible exact Rg.up_value)
         simp only [Act.put, List.setIfInBounds_toArray, List.set_cons_zero, List.set_cons_succ])
        (refine Rr.wr_y (by simp only [List.getElem?_toArray, List.getElem?_cons_succ, List.getElem?_cons_zero]; rfl) (by rfl) ?_
         apply Exists.intro
         refine ⟨fun wz hw _ => ?_, ?_⟩
         · have hcz := hw.cells.1
           go_simp
           (with_reducible exact Rg.up_value)
         simp only [Act.put, List.setIfInBounds_toArray, List.set_cons_zero, List.set_cons_succ])
        (refine Rr.wr_y (by simp only [List.getElem?_toArray, List.getElem?_cons_succ, List.getElem?_cons_zero]; rfl) (by rfl) ?_
         apply Exists.intro
         refine ⟨fun wz hw _ => ?_, ?_⟩
         · have hcz := hw.cells.1
           go_simp
           (with_reducible exact Rg.up_value)
         simp only [Act.put, List.setIfInBounds_toArray, List.set_cons_zero, List.set_cons_succ])
        refine Rr.wr_nil ?_
        intro wy hy hh
        simp only [List.length_cons, List.length_nil, List.drop_succ_cons, List.drop_zero, Nat.reduceAdd]
        clear hh
        go_wp2
        go_roundw
        case rel => exact ⟨i, by go_num, by omega, by rw [HZ.out], (by with_reducible repeat (first | exact Ext.refl _ | assumption | apply Ext.drewN | apply Ext.drew | apply Ext.alloc | (refine Ext.setCell ?_ (by simp <;> omega) _) | (refine Ext.trans ?_ (by assumption))))⟩
        case measure => simp [intOf]
      · have hd : (id == lot) = false := by rw [beq_eq_false_iff_ne]; exact hq
        have HZ := Lib.hid (show idxFrom (lotP ls lot) ls.length (ls.length - i) = z by rw [HS.out, if_neg (by rw [hd]; decide)])
        clear hq
        go_wp2_with (fail)
        refine Rr.wp_region ((List.range 8).map (fun i => (i, .y))) (fun _ => (.cells #[] 29, Rg.ptr)) (by kernel_rfl) (by kernel_rfl) ?_
        simp only [List.range, List.range.loop, List.map_cons, List.map_nil]
        (refine Rr.wr_y (by simp only [List.getElem?_toArray, List.getElem?_cons_succ, List.getElem?_cons_zero]; rfl) (by rfl) ?_
         apply Exists.intro
         refine ⟨fun wz hw _ => ?_, ?_⟩
         · have hcz := hw.cells.1
           go_simp
           (with_reducible exact Rg.up_value)
         simp only [Act.put, List.setIfInBounds_toArray, List.set_cons_zero, List.set_cons_succ])
        (refine Rr.wr_y (by simp only [List.getElem?_toArray, List.getElem?_cons_succ, List.getElem?_cons_zero]; rfl) (by rfl) ?_
         apply Exists.intro
         refine ⟨fun wz hw _ => ?_, ?_⟩
         · have hcz := hw.cells.1
           go_simp
           (with_reducible exact Rg.up_value)
         simp only [Act.put, List.setIfInBounds_toArray, List.set_cons_zero, List.set_cons_succ])
        (refine Rr.wr_y (by simp only [List.getElem?_toArray, List.getElem?_cons_succ, List.getElem?_cons_zero]; rfl) (by rfl) ?_
         apply Exists.intro
         refine ⟨fun wz hw _ => ?_, ?_⟩
         · have hcz := hw.cells.1
           go_simp
           (with_reducible exact Rg.up_value)
         simp only [Act.put, List.setIfInBounds_toArray, List.set_cons_zero, List.set_cons_succ])
        (refine Rr.wr_y (by simp only [List.getElem?_toArray, List.getElem?_cons_succ, List.getElem?_cons_zero]; rfl) (by rfl) ?_
         apply Exists.intro
         refine ⟨fun wz hw _ => ?_, ?_⟩
         · have hcz := hw.cells.1
           go_simp
           (with_reducible exact Rg.up_value)
         simp only [Act.put, List.setIfInBounds_toArray, List.set_cons_zero, List.set_cons_succ])
        (refine Rr.wr_y (by simp only [List.getElem?_toArray, List.getElem?_cons_succ, List.getElem?_cons_zero]; rfl) (by rfl) ?_
         apply Exists.intro
         refine ⟨fun wz hw _ => ?_, ?_⟩
         · have hcz := hw.cells.1
           go_simp
           (with_reducible exact Rg.up_value)
         simp only [Act.put, List.setIfInBounds_toArray, List.set_cons_zero, List.set_cons_succ])
        (refine Rr.wr_y (by simp only [List.getElem?_toArray, List.getElem?_cons_succ, List.getElem?_cons_zero]; rfl) (by rfl) ?_
         apply Exists.intro
         refine ⟨fun wz hw _ => ?_, ?_⟩
         · have hcz := hw.cells.1
           go_simp
           (with_reducible exact Rg.up_value)
         simp only [Act.put, List.setIfInBounds_toArray, List.set_cons_zero, List.set_cons_succ])
        (refine Rr.wr_y (by simp only [List.getElem?_toArray, List.getElem?_cons_succ, List.getElem?_cons_zero]; rfl) (by rfl) ?_
         apply Exists.intro
         refine ⟨fun wz hw _ => ?_, ?_⟩
         · have hcz := hw.cells.1
           go_simp
           (with_reducible exact Rg.up_value)
         simp only [Act.put, List.setIfInBounds_toArray, List.set_cons_zero, List.set_cons_succ])
        (refine Rr.wr_y (by simp only [List.getElem?_toArray, List.getElem?_cons_succ, List.getElem?_cons_zero]; rfl) (by rfl) ?_
         apply Exists.intro
         refine ⟨fun wz hw _ => ?_, ?_⟩
         · have hcz := hw.cells.1
           go_simp
           (with_reducible exact Rg.up_value)
         simp only [Act.put, List.setIfInBounds_toArray, List.set_cons_zero, List.set_cons_succ])
        refine Rr.wr_nil ?_
        intro wy hy hh
        simp only [List.length_cons, List.length_nil, List.drop_succ_cons, List.drop_zero, Nat.reduceAdd]
        clear hh
        go_wp2
        go_roundw
        case rel => exact ⟨i, by go_num, by omega, by rw [HZ.out], (by with_reducible repeat (first | exact Ext.refl _ | assumption | apply Ext.drewN | apply Ext.drew | apply Ext.alloc | (refine Ext.setCell ?_ (by simp <;> omega) _) | (refine Ext.trans ?_ (by assumption))))⟩
        case measure => simp [intOf]
end Go.Proofs.Ytgkdeknfmmgbdaa
