/-
  few walked. Condition: the argument reads as items.
-/
import Derived.Test.YthdhlocoiipbaaaFlW
import Derived.Test.YthdhlocoiipbaaaLwO
namespace Go.Proofs.Ythdhlocoiipbaaa
set_option linter.unusedVariables false
set_option linter.unusedSimpArgs false
open Go.RowKit

/-- What few leaves: items, each with its own origins, in own blocks. -/
def FewS (B : Nat) (w : World) (v : Value) (xs : List It) : Prop :=
  w.ownsRow B 32 3 v xs.length (xs.flatMap It.cs) ∧ ∀ x ∈ xs, OkI x.id ∧ OkI x.label ∧ (∀ z ∈ x.frm, OkI z) ∧ x.frm.length ≤ 5 ∧ w.ownsRow B 3 1 x.fv x.frm.length (x.frm.flatMap celI)
theorem FewS.ri {B : Nat} {w : World} {v : Value} {xs : List It} (h : FewS B w v xs) (hl : xs.length ≤ 12) : RI w v xs :=
  ⟨(SR.of_row (cs := It.cs) (fun x => rfl) h.1 (by omega)).sq, fun x hx => ⟨(h.2 x hx).1, (h.2 x hx).2.1, ird_row (h.2 x hx).2.2.2.2 (h.2 x hx).2.2.1 (by have := (h.2 x hx).2.2.2.1; omega)⟩⟩

set_option maxRecDepth 100000 in
set_option maxHeartbeats 4000000 in
theorem few_any (ys : List It) (v : Value) (w : World) (h : RWI w v ys) :
    Calls Try.prog 13 #[v] w fun e w' => ∃ r xs, e = .returned r ∧ RI w' r xs ∧ Ext w w' := by
  obtain ⟨A, cap, rfl, hn, hgd, hcell⟩ := h
  have HG := Lib.hid hgd
  have HC := Lib.hid hcell
  clear hgd hcell
  go_enter Try.func13, Try.ntmps13
  go_upto_region 3 with (fail)
  go_loopw [3, 4] (fun o k wr => ∃ (j : Nat) (xs : List It), k = .int .i64 j ∧ j ≤ 12 ∧ j ≤ ys.length ∧ xs.length = j ∧ FewS w.heap.size wr o xs ∧ Ext w wr) (fun _ k _ => 12 - (iof k).toNat)
  case atStart => exact ⟨0, [], rfl, by omega, by omega, rfl, ⟨World.ownsRow_nil _ _ _ _, by simp⟩, Ext.refl _⟩
  case round =>
    obtain ⟨j, xs, rfl, hj, hjn, hxl, hM, hx⟩ := hrel
    by_cases hjl : j < ys.length
    · by_cases hj12 : j < 12
      · obtain ⟨b, off, rfl, hc⟩ := HC.out.resolve_left (by intro e; rw [e] at hjl; simp at hjl)
        obtain ⟨c0, c1, c2⟩ := hc j hjl
        have c0 := (hx.cells.1 _ _ (World.block_lt_of_cell? w _ c0)).trans c0
        have c1 := (hx.cells.1 _ _ (World.block_lt_of_cell? w _ c1)).trans c1
        have c2 := (hx.cells.1 _ _ (World.block_lt_of_cell? w _ c2)).trans c2
        obtain ⟨hg, A, c, hsh, hlc, hcm⟩ := HG.out ys[j] (List.getElem_mem _)
        clear hc
        generalize ys[j] = y at *
        obtain ⟨yid, ylab, yfv, yfrm⟩ := y
        obtain ⟨hg0, hg1, hg2⟩ := hg
        simp only at hsh c0 c1 c2 hlc hg0 hg1 hg2
        subst hsh
        have Hg0 := Lib.hid hg0; have Hg1 := Lib.hid hg1; have Hg2 := Lib.hid (hg2.ext hx)
        clear hg0 hg1 hg2
        obtain ⟨m, hm⟩ : ∃ m, m = min yfrm.length 5 := ⟨_, rfl⟩
        have hmi : min (yfrm.length : Int) 5 = (m : Int) := by omega
        have hm5 : m ≤ 5 := by omega
        have hml : m ≤ yfrm.length := by omega
        have hmc : m ≤ c := by omega
        have HMm := Lib.hid hm; clear hm
        rcases A with _ | ⟨ab, aoff, asp⟩
        · obtain rfl : yfrm = [] := by
            obtain ⟨A', cap', e, -, -, hc⟩ := Hg2.out
            injection e with e1 e2 e3
            subst e1
            rcases hc with h | ⟨_, _, h, -⟩
            · exact h
            · cases h
          obtain rfl : m = 0 := by simpa using hml
          clear hml hmc hm5 hmi hlc
          simp only [List.length_nil] at c2 Hg2
          go_upto_region 6 with (fail)
          have hq := World.alloc_heap_new wr (.cells #[.int .i64 yid, .int .i64 ylab, .slice none 0 c] 32)
          have hx5 := Ext.alloc (Ext.refl wr) (.cells #[.int .i64 yid, .int .i64 ylab, .slice none 0 c] 32)
          have hsz5 : (wr.alloc (.cells #[.int .i64 yid, .int .i64 ylab, .slice none 0 c] 32)).heap.size = wr.heap.size + 1 := by simp
          generalize wr.alloc (.cells #[.int .i64 yid, .int .i64 ylab, .slice none 0 c] 32) = w5 at *
          have q2 := cell_of_row w5 _ 2 _ _ _ hq
          have hlt5 : wr.heap.size < w5.heap.size := by omega
          have HSZ := Lib.hid hsz5; clear hsz5
          clear c0 c1 c2
          have hxw := hx.size
          go_upto_region 7 with (at_builtin; go_loud (refine append_cut rfl _ _ rfl w.heap.size w5.heap.size (by rfl) (World.alloc_heap_new _ _) (by have := HSZ.out; omega) none 0 c c 0 ([] : List Int) (by rfl) ((Hg2.out.ext hx5).ext (Ext.alloc (Ext.refl _) _)) (by simp) (by omega) ?_; intro g cap' w9 hr9 hb9; have hq9 := (hb9.block wr.heap.size (by have := HSZ.out; omega)).trans ((Below.heap_alloc _ _ _ (Rg.lt_of_heap hq)).trans hq); have q9 := cell_of_row w9 _ 2 _ _ _ hq9; have f9 : w9.frozen? ⟨wr.heap.size, 2, none⟩ = false := by simp [World.frozen?, hq9]))
          have hgq : g ≠ wr.heap.size := by
            rintro rfl
            obtain ⟨cs, hcs⟩ := row_block hr9 rfl
            rw [hq9] at hcs
            cases hcs
          have hqA : (w9.setCell ⟨wr.heap.size, 2, none⟩ (.slice (some ⟨g, 0, none⟩) 0 cap')).heap[wr.heap.size]? = some (.cells #[.int .i64 yid, .int .i64 ylab, .slice (some ⟨g, 0, none⟩) 0 cap'] 32) := heap_setCell_same _ _ 2 _ _ _ hq9
          have hrA := World.ownsRow.kept hr9 (grown_setCell w9 wr.heap.size 2 (.slice (some ⟨g, 0, none⟩) 0 cap')) (.inr (by simp [Value.ownBlock]; exact hgq))
          have hxA : Ext wr (w9.setCell ⟨wr.heap.size, 2, none⟩ (.slice (some ⟨g, 0, none⟩) 0 cap')) := Below.setCell (hx5.trans (Below.trans (Ext.alloc (Ext.refl _) _) hb9)) (Nat.le_refl _) _
          generalize w9.setCell ⟨wr.heap.size, 2, none⟩ (.slice (some ⟨g, 0, none⟩) 0 cap') = wA at *
          obtain ⟨L, hL⟩ : ∃ L, L = ([] : List Int).take 0 := ⟨_, rfl⟩
          have hLl : L.length = 0 := by rw [hL]; rfl
          have hLz : ∀ z ∈ L, OkI z := fun z hz => by rw [hL] at hz; cases hz
          rw [← hL] at hrA
          clear q2 q9 f9 hq9 hq hr9 hb9 hx5 hlt5 hL
          have a0 := cell_of_row wA _ 0 _ _ _ hqA
          have a1 := cell_of_row wA _ 1 _ _ _ hqA
          have a2 := cell_of_row wA _ 2 _ _ _ hqA
          have hMr := row_ext hM.1 hxA
          have hMx : ∀ x ∈ xs, OkI x.id ∧ OkI x.label ∧ (∀ z ∈ x.frm, OkI z) ∧ x.frm.length ≤ 5 ∧ wA.ownsRow w.heap.size 3 1 x.fv x.frm.length (x.frm.flatMap celI) := fun x h => ⟨(hM.2 x h).1, (hM.2 x h).2.1, (hM.2 x h).2.2.1, (hM.2 x h).2.2.2.1, row_ext (hM.2 x h).2.2.2.2 hxA⟩
          have hgw : Ext w wA := hx.trans hxA
          have HMX := Lib.hid hMx; have HRA := Lib.hid hrA; have HLL := Lib.hid hLl
          clear hM hMx hrA hLl
          go_wp2_with (at_builtin; go_loud (refine append_g (cs := It.cs) (z := .agg #[.int .i64 0, .int .i64 0, .slice none 0 0]) 23 32 40 Try.underlying23 (by kernel_rfl) (by rfl) (by decide) (by decide) rfl _ _ rfl w.heap.size _ xs (by rfl) (row_ext hMr (Ext.alloc (Ext.refl _) _)) wA.heap.size ⟨yid, ylab, .slice (some ⟨g, 0, none⟩) 0 cap', L⟩ ⟨rfl, by simp [It.cs, Value.oneCell']⟩ (by rfl) (World.alloc_heap_new _ _) (by omega) (by have := hgw.size; simp; omega) ?_; intro g2 cap2 wB hrB hgB hat))
          refine ⟨⟨j + 1, xs ++ [⟨yid, ylab, .slice (some ⟨g, 0, none⟩) 0 cap', L⟩], by simp, by omega, by omega, by simp; omega, ⟨by simpa [hxl] using hrB, ?_⟩, grown_ext (hgw.trans (Ext.alloc (Ext.refl _) _)) (row_ext hMr (Ext.alloc (Ext.refl _) _)) (Nat.le_refl _) hgB⟩, by simp; omega⟩
          have hfin : ∀ {B : Nat} {v : Value} {n' : Nat} {ys : List Value}, wA.ownsRow B 3 1 v n' ys → wB.ownsRow B 3 1 v n' ys := fun {B v n' ys} h => World.ownsRow.kept (row_ext h (Ext.alloc (Ext.refl _) _)) hgB (row_ne h hMr (by decide))
          intro x hxx
          rcases List.mem_append.1 hxx with h | h
          · obtain ⟨b1, b2, b3, b4, b5⟩ := HMX.out x h
            exact ⟨b1, b2, b3, b4, hfin b5⟩
          · rw [List.mem_singleton] at h
            subst h
            exact ⟨Hg0.out, Hg1.out, hLz, by show L.length ≤ 5; rw [HLL.out]; decide, by show wB.ownsRow _ 3 1 _ L.length _; rw [HLL.out]; exact hfin HRA.out⟩
        · go_upto_region 6 with (fail)
          have hq := World.alloc_heap_new wr (.cells #[.int .i64 yid, .int .i64 ylab, .slice (some ⟨ab, aoff, asp⟩) yfrm.length c] 32)
          have hx5 := Ext.alloc (Ext.refl wr) (.cells #[.int .i64 yid, .int .i64 ylab, .slice (some ⟨ab, aoff, asp⟩) yfrm.length c] 32)
          have hsz5 : (wr.alloc (.cells #[.int .i64 yid, .int .i64 ylab, .slice (some ⟨ab, aoff, asp⟩) yfrm.length c] 32)).heap.size = wr.heap.size + 1 := by simp
          generalize wr.alloc (.cells #[.int .i64 yid, .int .i64 ylab, .slice (some ⟨ab, aoff, asp⟩) yfrm.length c] 32) = w5 at *
          have q2 := cell_of_row w5 _ 2 _ _ _ hq
          have hlt5 : wr.heap.size < w5.heap.size := by omega
          have HSZ := Lib.hid hsz5; clear hsz5
          clear c0 c1 c2
          have hxw := hx.size
          go_upto_region 7 with (at_builtin; go_loud (refine append_cut rfl _ _ rfl w.heap.size w5.heap.size (by rfl) (World.alloc_heap_new _ _) (by have := HSZ.out; omega) (some ⟨ab, aoff, asp⟩) yfrm.length c c m yfrm (by rfl) ((Hg2.out.ext hx5).ext (Ext.alloc (Ext.refl _) _)) hml hm5 ?_; intro g cap' w9 hr9 hb9; have hq9 := (hb9.block wr.heap.size (by have := HSZ.out; omega)).trans ((Below.heap_alloc _ _ _ (Rg.lt_of_heap hq)).trans hq); have q9 := cell_of_row w9 _ 2 _ _ _ hq9; have f9 : w9.frozen? ⟨wr.heap.size, 2, none⟩ = false := by simp [World.frozen?, hq9]))
          have hgq : g ≠ wr.heap.size := by
            rintro rfl
            obtain ⟨cs, hcs⟩ := row_block hr9 rfl
            rw [hq9] at hcs
            cases hcs
          have hqA : (w9.setCell ⟨wr.heap.size, 2, none⟩ (.slice (some ⟨g, 0, none⟩) m cap')).heap[wr.heap.size]? = some (.cells #[.int .i64 yid, .int .i64 ylab, .slice (some ⟨g, 0, none⟩) m cap'] 32) := heap_setCell_same _ _ 2 _ _ _ hq9
          have hrA := World.ownsRow.kept hr9 (grown_setCell w9 wr.heap.size 2 (.slice (some ⟨g, 0, none⟩) m cap')) (.inr (by simp [Value.ownBlock]; exact hgq))
          have hxA : Ext wr (w9.setCell ⟨wr.heap.size, 2, none⟩ (.slice (some ⟨g, 0, none⟩) m cap')) := Below.setCell (hx5.trans (Below.trans (Ext.alloc (Ext.refl _) _) hb9)) (Nat.le_refl _) _
          generalize w9.setCell ⟨wr.heap.size, 2, none⟩ (.slice (some ⟨g, 0, none⟩) m cap') = wA at *
          obtain ⟨L, hL⟩ : ∃ L, L = yfrm.take m := ⟨_, rfl⟩
          have hLl : L.length = m := by rw [hL, List.length_take]; omega
          have hLz : ∀ z ∈ L, OkI z := fun z hz => (ird_src (m := 0) (c' := 0) Hg2.out (by omega)).2 z (List.mem_of_mem_take (hL ▸ hz))
          rw [← hL] at hrA
          clear q2 q9 f9 hq9 hq hr9 hb9 hx5 hlt5 hL
          have a0 := cell_of_row wA _ 0 _ _ _ hqA
          have a1 := cell_of_row wA _ 1 _ _ _ hqA
          have a2 := cell_of_row wA _ 2 _ _ _ hqA
          have hMr := row_ext hM.1 hxA
          have hMx : ∀ x ∈ xs, OkI x.id ∧ OkI x.label ∧ (∀ z ∈ x.frm, OkI z) ∧ x.frm.length ≤ 5 ∧ wA.ownsRow w.heap.size 3 1 x.fv x.frm.length (x.frm.flatMap celI) := fun x h => ⟨(hM.2 x h).1, (hM.2 x h).2.1, (hM.2 x h).2.2.1, (hM.2 x h).2.2.2.1, row_ext (hM.2 x h).2.2.2.2 hxA⟩
          have hgw : Ext w wA := hx.trans hxA
          have HMX := Lib.hid hMx; have HRA := Lib.hid hrA; have HLL := Lib.hid hLl
          clear hM hMx hrA hLl
          go_wp2_with (at_builtin; go_loud (refine append_g (cs := It.cs) (z := .agg #[.int .i64 0, .int .i64 0, .slice none 0 0]) 23 32 40 Try.underlying23 (by kernel_rfl) (by rfl) (by decide) (by decide) rfl _ _ rfl w.heap.size _ xs (by rfl) (row_ext hMr (Ext.alloc (Ext.refl _) _)) wA.heap.size ⟨yid, ylab, .slice (some ⟨g, 0, none⟩) m cap', L⟩ ⟨rfl, by simp [It.cs, Value.oneCell']⟩ (by rfl) (World.alloc_heap_new _ _) (by omega) (by have := hgw.size; simp; omega) ?_; intro g2 cap2 wB hrB hgB hat))
          refine ⟨⟨j + 1, xs ++ [⟨yid, ylab, .slice (some ⟨g, 0, none⟩) m cap', L⟩], by simp, by omega, by omega, by simp; omega, ⟨by simpa [hxl] using hrB, ?_⟩, grown_ext (hgw.trans (Ext.alloc (Ext.refl _) _)) (row_ext hMr (Ext.alloc (Ext.refl _) _)) (Nat.le_refl _) hgB⟩, by simp; omega⟩
          have hfin : ∀ {B : Nat} {v : Value} {n' : Nat} {ys : List Value}, wA.ownsRow B 3 1 v n' ys → wB.ownsRow B 3 1 v n' ys := fun {B v n' ys} h => World.ownsRow.kept (row_ext h (Ext.alloc (Ext.refl _) _)) hgB (row_ne h hMr (by decide))
          intro x hxx
          rcases List.mem_append.1 hxx with h | h
          · obtain ⟨b1, b2, b3, b4, b5⟩ := HMX.out x h
            exact ⟨b1, b2, b3, b4, hfin b5⟩
          · rw [List.mem_singleton] at h
            subst h
            exact ⟨Hg0.out, Hg1.out, hLz, by show L.length ≤ 5; rw [HLL.out]; exact hm5, by show wB.ownsRow _ 3 1 _ L.length _; rw [HLL.out]; exact hfin HRA.out⟩
      · obtain rfl : j = 12 := by omega
        go_wp2_with (fail)
        go_ret
        exact ⟨_, xs, rfl, hM.ri (by omega), hx⟩
    · obtain rfl : j = ys.length := by omega
      go_wp2_with (fail)
      go_ret
      exact ⟨_, xs, rfl, hM.ri (by omega), hx⟩

end Go.Proofs.Ythdhlocoiipbaaa
