/-
  Lemmas of this claim (JeAQ). Nothing is asked.
-/
import Derived.Test.YteomcpplajeidaaGreatJeAP
import Derived.Test.YteomcpplajeidaaGreatJeAO
namespace Go.Proofs.YteomcpplajeidaaGreat
set_option linter.unusedVariables false
set_option linter.unusedSimpArgs false
set_option maxRecDepth 100000
open Go.RowKit
def SrtS (cmp : Sc → Sc → Int) (zs : List Sc) : Prop := ∀ i j (hij : i < j) (hj : j < zs.length), ¬ cmp zs[j] (zs[i]'(by omega)) < 0
set_option maxHeartbeats 4000000 in
theorem median_any (w0 : World) (recv : Value) (cmp : Sc → Sc → Int) (g n c : Nat) (zs : List Sc) (hC : CmpAt w0 recv cmp zs) (hn0 : zs.length = n) (hnl : n ≤ 1000000) (hS : SrtS cmp zs) (i j k : Nat) (hij : i < j) (hjk : j < k) (hk : k < n) (sw : Value) (w w1 : World) (h : SO w0 w1 w g n c zs) :
    Calls Tryz.prog 161 #[.slice (some ⟨g, 0, none⟩) n c, .int .i64 i, .int .i64 j, .int .i64 k, sw, .func (.func 40) #[recv] #[]] w fun e w' => e = .returned (.int .i64 j) ∧ Ext w w' := by
  have H1 := Lib.hid (fun wz (hz : SO w0 w1 wz g n c zs) => order2_any w0 recv cmp g n c zs hC hn0 hnl i j (by omega) (by omega) (hS i j hij (by omega)) sw wz w1 hz)
  have H2 := Lib.hid (fun wz (hz : SO w0 w1 wz g n c zs) => order2_any w0 recv cmp g n c zs hC hn0 hnl j k (by omega) (by omega) (hS j k hjk (by omega)) sw wz w1 hz)
  have HH := Lib.hid h
  clear hC hn0 hnl hS h
  go_enter Tryz.func161, Tryz.ntmps161
  go_upto_region 2 with (go_at_call 193; (with_reducible refine (H1.out _ HH.out).mono ?_); rintro e w2 ⟨rfl, hx2⟩; have HX2 := Lib.hid hx2; clear hx2)
  go_upto_region 3 with (go_at_call 193; (with_reducible refine (H2.out _ (HH.out.ext HX2.out)).mono ?_); rintro e w3 ⟨rfl, hx3⟩; have HX3 := Lib.hid (HX2.out.trans hx3); clear hx3)
  go_wp2_with (go_at_call 193; (with_reducible refine (H1.out _ (HH.out.ext HX3.out)).mono ?_); rintro e w4 ⟨rfl, hx4⟩; have HX4 := Lib.hid (HX3.out.trans hx4); clear hx4)
  go_ret
  exact ⟨rfl, HX4.out⟩
set_option maxHeartbeats 4000000 in
theorem pivot_any (w0 : World) (recv : Value) (cmp : Sc → Sc → Int) (g n c : Nat) (zs : List Sc) (hC : CmpAt w0 recv cmp zs) (hn0 : zs.length = n) (hn1 : 12 < n) (hnl : n < 50) (hS : SrtS cmp zs) (w w1 : World) (h : SO w0 w1 w g n c zs) :
    Calls Tryz.prog 111 #[.slice (some ⟨g, 0, none⟩) n c, .int .i64 0, .int .i64 n, .func (.func 40) #[recv] #[]] w fun e w' => e = .returned (.tuple #[.int .i64 (n / 4 * 2 : Nat), .int .i64 1]) ∧ Ext w w' := by
  have HM := Lib.hid (fun (sw : Value) wz (hz : SO w0 w1 wz g n c zs) => median_any w0 recv cmp g n c zs hC hn0 (by omega) hS (n / 4) (n / 4 * 2) (n / 4 * 3) (by omega) (by omega) (by omega) sw wz w1 hz)
  have HH := Lib.hid h
  have e0 : (n : Int).tdiv 4 = ((n / 4 : Nat) : Int) := by rw [Int.tdiv_eq_ediv_of_nonneg (by omega)]; omega
  have hq : 3 ≤ n / 4 ∧ n / 4 ≤ 12 := by omega
  generalize n / 4 = q at *
  have a2 : ((q * 2 : Nat) : Int) = (q : Int) * 2 := by omega
  have a3 : ((q * 3 : Nat) : Int) = (q : Int) * 3 := by omega
  rw [a2, a3] at HM
  rw [a2]
  have b0 : IntKind.i64.wrap (q : Int) = (q : Int) := by rw [IntKind.wrap_i64]; omega
  have b1 : IntKind.i64.wrap ((q : Int) * 1) = (q : Int) * 1 := by rw [IntKind.wrap_i64]; omega
  have b2 : IntKind.i64.wrap ((q : Int) * 2) = (q : Int) * 2 := by rw [IntKind.wrap_i64]; omega
  have b3 : IntKind.i64.wrap ((q : Int) * 3) = (q : Int) * 3 := by rw [IntKind.wrap_i64]; omega
  have bn : IntKind.i64.wrap (n : Int) = (n : Int) := by rw [IntKind.wrap_i64]; omega
  have hn8 : (8 : Int) ≤ (n : Int) := by omega
  have hn50 : ¬ (50 : Int) ≤ (n : Int) := by omega
  clear hC hn0 hn1 hnl hS h a2 a3
  go_enter Tryz.func111, Tryz.ntmps111
  go_upto_region 11 with (fail)
  have hxa : Ext w (w.alloc (.cells #[.int .i64 0] 3)) := Ext.alloc (Ext.refl _) _
  have HXA := Lib.hid hxa
  have HSO := Lib.hid (HH.out.ext hxa)
  have HZ : Hid ((w.alloc (.cells #[.int .i64 0] 3)).heap[w.heap.size]? = some (.cells #[.int .i64 0] 3)) := Lib.hid (heap_alloc_new w _)
  clear hxa
  go_upto_region 12 with (go_at_call 161; (with_reducible refine (HM.out _ _ HSO.out).mono ?_); rintro e w2 ⟨rfl, hx2⟩; have HX2 := Lib.hid (HXA.out.trans hx2); have HZ2 := Lib.hid ((hx2.block _ (Rg.lt_of_heap HZ.out)).trans HZ.out); clear hx2)
  have z0 : w2.cell? ⟨w.heap.size, 0, none⟩ = some (.int .i64 0) := (Rg.cells_of HZ2.out).1 0
  go_wp2_with (fail)
  go_ret2
  exact ⟨rfl, HX2.out⟩
end Go.Proofs.YteomcpplajeidaaGreat
namespace Go.Proofs.YteomcpplajeidaaGreat
set_option linter.unusedVariables false
set_option linter.unusedSimpArgs false
set_option maxRecDepth 100000
open Go.RowKit
set_option maxHeartbeats 8000000 in
theorem partial_any (w0 : World) (recv : Value) (cmp : Sc → Sc → Int) (g n c : Nat) (zs : List Sc) (hC : CmpAt w0 recv cmp zs) (hn0 : zs.length = n) (hn1 : 1 ≤ n) (hnl : n ≤ 1000000) (hS : SrtS cmp zs) (w w1 : World) (h : SO w0 w1 w g n c zs) :
    Calls Tryz.prog 113 #[.slice (some ⟨g, 0, none⟩) n c, .int .i64 0, .int .i64 n, .func (.func 40) #[recv] #[]] w fun e w' => e = .returned (.bool true) ∧ Ext w w' := by
  have HH := Lib.hid h
  have HC := Lib.hid hC
  have HS := Lib.hid hS
  have HN := Lib.hid hn0
  clear hC hn0 hS h
  go_enter Tryz.func113, Tryz.ntmps113
  go_upto_region 3 with (fail)
  go_loopw [9, 10] (fun iv jv wr => iv = .int .i64 1 ∧ jv = .int .i64 0 ∧ w = wr) (fun _ _ _ => 0)
  case atStart => exact ⟨rfl, rfl, rfl⟩
  case round =>
    obtain ⟨rfl, rfl, rfl⟩ := hrel
    go_upto_region 5 with (fail)
    go_loopw [9] (fun iv wr => ∃ k : Nat, iv = .int .i64 k ∧ 1 ≤ k ∧ k ≤ n ∧ Hid (Ext w wr)) (fun iv _ => n - (iof iv).toNat)
    case atStart => exact ⟨1, rfl, Nat.le_refl _, hn1, Lib.hid (Ext.refl _)⟩
    case round =>
      obtain ⟨k, rfl, hk1, hkn, HX⟩ := hrel
      by_cases hkl : k < n
      · have hkz : k < zs.length := by have := HN.out; omega
        have HSO := Lib.hid (HH.out.ext HX.out)
        have HRA := Lib.hid (HSO.out.range HN.out hnl (k - 1) (by omega))
        have HRB := Lib.hid (HSO.out.range HN.out hnl k hkz)
        have HCA := Lib.hid (HC.out zs[k] (List.getElem_mem _) zs[k - 1] (List.getElem_mem _))
        have hlt := HS.out (k - 1) k (by omega) hkz
        have hwl := HSO.out.lt
        have HLOW := Lib.hid HSO.out.low
        generalize zs[k] = y at *
        generalize zs[k - 1] = x at *
        have hki : (k : Int) < (n : Int) := by omega
        have hk0 : (0 : Int) ≤ (k : Int) := by omega
        have hkm : (0 : Int) ≤ (k : Int) - 1 := by omega
        have hk1i : (1 : Int) ≤ (k : Int) := by omega
        have hkm' : (k : Int) - 1 < (n : Int) := by omega
        have hw1 : IntKind.i64.wrap ((k : Int) - 1) = (k : Int) - 1 := by rw [IntKind.wrap_i64]; omega
        have hw2 : IntKind.i64.wrap ((k : Int) + 1) = (k : Int) + 1 := by rw [IntKind.wrap_i64]; omega
        have htn : ((k : Int) - 1).toNat = k - 1 := by omega
        clear HSO
        go_upto_region 5 with (fail)
        refine Rr.wp_region ((List.range 17).map (fun i => (i, .y))) (fun _ => (.cells #[] 29, Rg.ptr)) (by kernel_rfl) (by kernel_rfl) ?_
        simp only [List.range, List.range.loop, List.map_cons, List.map_nil]
        (refine Rr.wr_y (by simp only [List.getElem?_toArray, List.getElem?_cons_succ, List.getElem?_cons_zero]; rfl) (by rfl) ?_
         apply Exists.intro
         refine ⟨fun wz hw _ => ?_, ?_⟩
         · have hcz := hw.cells.1
           go_simp
           (with_reducible exact Rg.up_value)
         simp only [Act.put, List.setIfInBounds_toArray, List.set_cons_zero, List.set_cons_succ])
        (refine Rr.wr_y (by simp only [List.getElem?_toArray, List.getElem?_cons_succ, List.getElem?_cons_zero]; rfl) (by rfl) ?_
         apply Exists.intro
         refine ⟨fun wz hw _ => ?_, ?_⟩
         · have hcz := hw.cells.1
           go_simp
           (with_reducible exact Rg.up_value)
         simp only [Act.put, List.setIfInBounds_toArray, List.set_cons_zero, List.set_cons_succ])
        (refine Rr.wr_y (by simp only [List.getElem?_toArray, List.getElem?_cons_succ, List.getElem?_cons_zero]; rfl) (by rfl) ?_
         apply Exists.intro
         refine ⟨fun wz hw _ => ?_, ?_⟩
         · have hcz := hw.cells.1
           go_simp
           (with_reducible exact Rg.up_value)
         simp only [Act.put, List.setIfInBounds_toArray, List.set_cons_zero, List.set_cons_succ])
        (refine Rr.wr_y (by simp only [List.getElem?_toArray, List.getElem?_cons_succ, List.getElem?_cons_zero]; rfl) (by rfl) ?_
         apply Exists.intro
         refine ⟨fun wz hw _ => ?_, ?_⟩
         · have hcz := hw.cells.1
           go_simp
           (with_reducible exact Rg.up_value)
         simp only [Act.put, List.setIfInBounds_toArray, List.set_cons_zero, List.set_cons_succ])
        (refine Rr.wr_y (by simp only [List.getElem?_toArray, List.getElem?_cons_succ, List.getElem?_cons_zero]; rfl) (by rfl) ?_
         apply Exists.intro
         refine ⟨fun wz hw _ => ?_, ?_⟩
         · have hcz := hw.cells.1
           go_simp
           (with_reducible exact Rg.up_value)
         simp only [Act.put, List.setIfInBounds_toArray, List.set_cons_zero, List.set_cons_succ])
        (refine Rr.wr_y (by simp only [List.getElem?_toArray, List.getElem?_cons_succ, List.getElem?_cons_zero]; rfl) (by rfl) ?_
         apply Exists.intro
         refine ⟨fun wz hw _ => ?_, ?_⟩
         · have hcz := hw.cells.1
           go_simp
           (with_reducible exact Rg.up_value)
         simp only [Act.put, List.setIfInBounds_toArray, List.set_cons_zero, List.set_cons_succ])
        (refine Rr.wr_y (by simp only [List.getElem?_toArray, List.getElem?_cons_succ, List.getElem?_cons_zero]; rfl) (by rfl) ?_
         apply Exists.intro
         refine ⟨fun wz hw _ => ?_, ?_⟩
         · have hcz := hw.cells.1
           go_simp
           (with_reducible exact Rg.up_value)
         simp only [Act.put, List.setIfInBounds_toArray, List.set_cons_zero, List.set_cons_succ])
        (refine Rr.wr_y (by simp only [List.getElem?_toArray, List.getElem?_cons_succ, List.getElem?_cons_zero]; rfl) (by rfl) ?_
         apply Exists.intro
         refine ⟨fun wz hw _ => ?_, ?_⟩
         · have hcz := hw.cells.1
           go_simp
           (with_reducible exact Rg.up_value)
         simp only [Act.put, List.setIfInBounds_toArray, List.set_cons_zero, List.set_cons_succ])
        (refine Rr.wr_y (by simp only [List.getElem?_toArray, List.getElem?_cons_succ, List.getElem?_cons_zero]; rfl) (by rfl) ?_
         apply Exists.intro
         refine ⟨fun wz hw _ => ?_, ?_⟩
         · exact up_mid (by rfl) (fun j v hv => (hw.cells.1 _ _ hwl).trans (HRB.out j v hv)) Tryz.underlying100 (by rfl)
         simp only [Act.put, List.setIfInBounds_toArray, List.set_cons_zero, List.set_cons_succ])
        (refine Rr.wr_y (by simp only [List.getElem?_toArray, List.getElem?_cons_succ, List.getElem?_cons_zero]; rfl) (by rfl) ?_
         apply Exists.intro
         refine ⟨fun wz hw _ => ?_, ?_⟩
         · have hcz := hw.cells.1
           go_simp
           (with_reducible exact Rg.up_value)
         simp only [Act.put, List.setIfInBounds_toArray, List.set_cons_zero, List.set_cons_succ])
        (refine Rr.wr_y (by simp only [List.getElem?_toArray, List.getElem?_cons_succ, List.getElem?_cons_zero]; rfl) (by rfl) ?_
         apply Exists.intro
         refine ⟨fun wz hw _ => ?_, ?_⟩
         · have hcz := hw.cells.1
           go_simp
           (with_reducible exact Rg.up_value)
         simp only [Act.put, List.setIfInBounds_toArray, List.set_cons_zero, List.set_cons_succ])
        (refine Rr.wr_y (by simp only [List.getElem?_toArray, List.getElem?_cons_succ, List.getElem?_cons_zero]; rfl) (by rfl) ?_
         apply Exists.intro
         refine ⟨fun wz hw _ => ?_, ?_⟩
         · have hcz := hw.cells.1
           go_simp
           (with_reducible exact Rg.up_value)
         simp only [Act.put, List.setIfInBounds_toArray, List.set_cons_zero, List.set_cons_succ])
        (refine Rr.wr_y (by simp only [List.getElem?_toArray, List.getElem?_cons_succ, List.getElem?_cons_zero]; rfl) (by rfl) ?_
         apply Exists.intro
         refine ⟨fun wz hw _ => ?_, ?_⟩
         · have hcz := hw.cells.1
           go_simp
           (with_reducible exact Rg.up_value)
         simp only [Act.put, List.setIfInBounds_toArray, List.set_cons_zero, List.set_cons_succ])
        (refine Rr.wr_y (by simp only [List.getElem?_toArray, List.getElem?_cons_succ, List.getElem?_cons_zero]; rfl) (by rfl) ?_
         apply Exists.intro
         refine ⟨fun wz hw _ => ?_, ?_⟩
         · exact up_mid (by rfl) (fun j v hv => (hw.cells.1 _ _ hwl).trans (HRA.out j v hv)) Tryz.underlying100 (by rfl)
         simp only [Act.put, List.setIfInBounds_toArray, List.set_cons_zero, List.set_cons_succ])
        (refine Rr.wr_y (by simp only [List.getElem?_toArray, List.getElem?_cons_succ, List.getElem?_cons_zero]; rfl) (by rfl) ⟨.int .i64 (cmp y x), fun wz hw hh => ?_, ?_⟩
         · go_simp
           apply Rg.up_enter
           (with_reducible refine (HCA.out wz (HLOW.out.trans hw)).mono ?_)
           rintro e w3 ⟨rfl, hb3⟩
           exact ⟨rfl, hb3⟩
         simp only [Act.put, List.setIfInBounds_toArray, List.set_cons_zero, List.set_cons_succ])
        (refine Rr.wr_y (by simp only [List.getElem?_toArray, List.getElem?_cons_succ, List.getElem?_cons_zero]; rfl) (by rfl) ?_
         apply Exists.intro
         refine ⟨fun wz hw _ => ?_, ?_⟩
         · have hcz := hw.cells.1
           go_simp
           (with_reducible exact Rg.up_value)
         simp only [Act.put, List.setIfInBounds_toArray, List.set_cons_zero, List.set_cons_succ])
        (refine Rr.wr_y (by simp only [List.getElem?_toArray, List.getElem?_cons_succ, List.getElem?_cons_zero]; rfl) (by rfl) ?_
         apply Exists.intro
         refine ⟨fun wz hw _ => ?_, ?_⟩
         · have hcz := hw.cells.1
           go_simp
           (with_reducible exact Rg.up_value)
         simp only [Act.put, List.setIfInBounds_toArray, List.set_cons_zero, List.set_cons_succ])
        refine Rr.wr_nil ?_
        intro wy hy hh
        simp only [List.length_cons, List.length_nil, List.drop_succ_cons, List.drop_zero, Nat.reduceAdd]
        clear hh
        have HXY := Lib.hid (HX.out.trans hy)
        clear hy
        generalize cmp y x = z at *
        go_wp2_with (fail)
        exact ⟨⟨k + 1, by rw [Int.natCast_add]; rfl, by omega, by omega, HXY⟩, by show n - ((k : Int) + 1).toNat < n - (k : Int).toNat; omega⟩
      · have hke : k = n := by omega
        subst hke
        have hki : ¬ (k : Int) < (k : Int) := by omega
        go_upto_region 5 with (fail)
        refine Rr.wp_region ((List.range 17).map (fun i => (i, .y))) (fun _ => (.cells #[] 29, Rg.ptr)) (by kernel_rfl) (by kernel_rfl) ?_
        simp only [List.range, List.range.loop, List.map_cons, List.map_nil]
        (refine Rr.wr_y (by simp only [List.getElem?_toArray, List.getElem?_cons_succ, List.getElem?_cons_zero]; rfl) (by rfl) ?_
         apply Exists.intro
         refine ⟨fun wz hw _ => ?_, ?_⟩
         · have hcz := hw.cells.1
           go_simp
           (with_reducible exact Rg.up_value)
         simp only [Act.put, List.setIfInBounds_toArray, List.set_cons_zero, List.set_cons_succ])
        (refine Rr.wr_y (by simp only [List.getElem?_toArray, List.getElem?_cons_succ, List.getElem?_cons_zero]; rfl) (by rfl) ?_
         apply Exists.intro
         refine ⟨fun wz hw _ => ?_, ?_⟩
         · have hcz := hw.cells.1
           go_simp
           (with_reducible exact Rg.up_value)
         simp only [Act.put, List.setIfInBounds_toArray, List.set_cons_zero, List.set_cons_succ])
        (refine Rr.wr_y (by simp only [List.getElem?_toArray, List.getElem?_cons_succ, List.getElem?_cons_zero]; rfl) (by rfl) ?_
         apply Exists.intro
         refine ⟨fun wz hw _ => ?_, ?_⟩
         · have hcz := hw.cells.1
           go_simp
           (with_reducible exact Rg.up_value)
         simp only [Act.put, List.setIfInBounds_toArray, List.set_cons_zero, List.set_cons_succ])
        (refine Rr.wr_y (by simp only [List.getElem?_toArray, List.getElem?_cons_succ, List.getElem?_cons_zero]; rfl) (by rfl) ?_
         apply Exists.intro
         refine ⟨fun wz hw _ => ?_, ?_⟩
         · have hcz := hw.cells.1
           go_simp
           (with_reducible exact Rg.up_value)
         simp only [Act.put, List.setIfInBounds_toArray, List.set_cons_zero, List.set_cons_succ])
        refine Rr.wr_skip (by simp only [List.getElem?_toArray, List.getElem?_cons_succ, List.getElem?_cons_zero]; rfl) (by rfl) ?_
        simp only [Act.put, List.setIfInBounds_toArray, List.set_cons_zero, List.set_cons_succ]
        refine Rr.wr_skip (by simp only [List.getElem?_toArray, List.getElem?_cons_succ, List.getElem?_cons_zero]; rfl) (by rfl) ?_
        simp only [Act.put, List.setIfInBounds_toArray, List.set_cons_zero, List.set_cons_succ]
        refine Rr.wr_skip (by simp only [List.getElem?_toArray, List.getElem?_cons_succ, List.getElem?_cons_zero]; rfl) (by rfl) ?_
        simp only [Act.put, List.setIfInBounds_toArray, List.set_cons_zero, List.set_cons_succ]
        refine Rr.wr_skip (by simp only [List.getElem?_toArray, List.getElem?_cons_succ, List.getElem?_cons_zero]; rfl) (by rfl) ?_
        simp only [Act.put, List.setIfInBounds_toArray, List.set_cons_zero, List.set_cons_succ]
        refine Rr.wr_skip (by simp only [List.getElem?_toArray, List.getElem?_cons_succ, List.getElem?_cons_zero]; rfl) (by rfl) ?_
        simp only [Act.put, List.setIfInBounds_toArray, List.set_cons_zero, List.set_cons_succ]
        refine Rr.wr_skip (by simp only [List.getElem?_toArray, List.getElem?_cons_succ, List.getElem?_cons_zero]; rfl) (by rfl) ?_
        simp only [Act.put, List.setIfInBounds_toArray, List.set_cons_zero, List.set_cons_succ]
        refine Rr.wr_skip (by simp only [List.getElem?_toArray, List.getElem?_cons_succ, List.getElem?_cons_zero]; rfl) (by rfl) ?_
        simp only [Act.put, List.setIfInBounds_toArray, List.set_cons_zero, List.set_cons_succ]
        refine Rr.wr_skip (by simp only [List.getElem?_toArray, List.getElem?_cons_succ, List.getElem?_cons_zero]; rfl) (by rfl) ?_
        simp only [Act.put, List.setIfInBounds_toArray, List.set_cons_zero, List.set_cons_succ]
        refine Rr.wr_skip (by simp only [List.getElem?_toArray, List.getElem?_cons_succ, List.getElem?_cons_zero]; rfl) (by rfl) ?_
        simp only [Act.put, List.setIfInBounds_toArray, List.set_cons_zero, List.set_cons_succ]
        refine Rr.wr_skip (by simp only [List.getElem?_toArray, List.getElem?_cons_succ, List.getElem?_cons_zero]; rfl) (by rfl) ?_
        simp only [Act.put, List.setIfInBounds_toArray, List.set_cons_zero, List.set_cons_succ]
        refine Rr.wr_skip (by simp only [List.getElem?_toArray, List.getElem?_cons_succ, List.getElem?_cons_zero]; rfl) (by rfl) ?_
        simp only [Act.put, List.setIfInBounds_toArray, List.set_cons_zero, List.set_cons_succ]
        refine Rr.wr_skip (by simp only [List.getElem?_toArray, List.getElem?_cons_succ, List.getElem?_cons_zero]; rfl) (by rfl) ?_
        simp only [Act.put, List.setIfInBounds_toArray, List.set_cons_zero, List.set_cons_succ]
        refine Rr.wr_skip (by simp only [List.getElem?_toArray, List.getElem?_cons_succ, List.getElem?_cons_zero]; rfl) (by rfl) ?_
        simp only [Act.put, List.setIfInBounds_toArray, List.set_cons_zero, List.set_cons_succ]
        refine Rr.wr_nil ?_
        intro wy hy hh
        simp only [List.length_cons, List.length_nil, List.drop_succ_cons, List.drop_zero, Nat.reduceAdd]
        clear hh
        have HXY := Lib.hid (HX.out.trans hy)
        clear hy
        go_wp2_with (fail)
        go_ret
        exact ⟨rfl, HXY.out⟩
end Go.Proofs.YteomcpplajeidaaGreat
namespace Go.Proofs.YteomcpplajeidaaGreat
set_option linter.unusedVariables false
set_option linter.unusedSimpArgs false
set_option maxRecDepth 100000
open Go.RowKit
set_option maxHeartbeats 8000000 in
theorem pdq_any (w0 : World) (recv : Value) (cmp : Sc → Sc → Int) (g n c : Nat) (zs : List Sc) (hC : CmpAt w0 recv cmp zs) (hn0 : zs.length = n) (hn1 : 12 < n) (hnl : n < 50) (hS : SrtS cmp zs) (lim : Int) (hl : lim ≠ 0) (w w1 : World) (h : SO w0 w1 w g n c zs) :
    Calls Tryz.prog 65 #[.slice (some ⟨g, 0, none⟩) n c, .int .i64 0, .int .i64 n, .int .i64 lim, .func (.func 40) #[recv] #[]] w fun e w' => e = .returned (.tuple #[]) ∧ Ext w w' := by
  have HPV := Lib.hid (pivot_any w0 recv cmp g n c zs hC hn0 hn1 hnl hS w w1 h)
  have HPI := Lib.hid (fun wz (hz : SO w0 w1 wz g n c zs) => partial_any w0 recv cmp g n c zs hC hn0 (by omega) (by omega) hS wz w1 hz)
  have HH := Lib.hid h
  have hn12 : ¬ (n : Int) ≤ 12 := by omega
  have hlz : ¬ lim = 0 := hl
  clear hC hn0 hS h hl
  go_enter Tryz.func65, Tryz.ntmps65
  go_upto_region 2 with (fail)
  go_loopw [1, 2, 3, 10, 11] (fun av bv lv b1 b2 wr => av = .int .i64 0 ∧ bv = .int .i64 n ∧ lv = .int .i64 lim ∧ b1 = .bool true ∧ b2 = .bool true ∧ w = wr) (fun _ _ _ _ _ _ => 0)
  case atStart => exact ⟨rfl, rfl, rfl, rfl, rfl, rfl⟩
  case round =>
    obtain ⟨rfl, rfl, rfl, rfl, rfl, rfl⟩ := hrel
    go_wp2_with (first
      | (go_at_call 111; (with_reducible refine HPV.out.mono ?_); rintro e w2 ⟨rfl, hx2⟩; have HX2 := Lib.hid hx2; clear hx2)
      | (go_at_call 113; (with_reducible refine (HPI.out _ (HH.out.ext HX2.out)).mono ?_); rintro e w3 ⟨rfl, hx3⟩; have HX3 := Lib.hid (HX2.out.trans hx3); clear hx3))
    exact bodyPost_ret (v := .tuple #[]) (by simp [results, Tryz.results65, go_sem]) rfl ⟨rfl, HX3.out⟩
theorem isort_srt (cmp : Sc → Sc → Int) (zs : List Sc) (hS : SrtS cmp zs) : isort (ltC cmp) zs = zs := by
  have key : ∀ k, k ≤ zs.length → isort (ltC cmp) (zs.take k) = zs.take k := by
    intro k
    induction k with
    | zero => intro _; rfl
    | succ k ih =>
      intro hk
      rw [List.take_succ_eq_append_getElem (show k < zs.length by omega), isort_snoc, ih (by omega)]
      cases k with
      | zero => rfl
      | succ m =>
        rw [List.take_succ_eq_append_getElem (show m < zs.length by omega), insR_snoc]
        rw [if_neg]
        simpa using hS m (m + 1) (by omega) (by omega)
  have := key zs.length (Nat.le_refl _)
  rwa [List.take_length] at this
set_option maxHeartbeats 4000000 in
theorem sort_order (w0 : World) (recv : Value) (cmp : Sc → Sc → Int) (zs : List Sc) (hC : CmpAt w0 recv cmp zs) (hnl : zs.length < 50) (hS : SrtS cmp zs) : SortAt w0 recv cmp zs := by
  intro g n c w hn h
  rcases Nat.lt_or_ge 12 n with h12 | h12
  · rw [isort_srt cmp zs hS]
    have HP := Lib.hid (fun (lim : Int) (hl : lim ≠ 0) wz (hz : SO w0 w wz g n c zs) => pdq_any w0 recv cmp g n c zs hC hn h12 (by omega) hS lim hl wz w hz)
    have HL := Lib.hid (fun wz => len66_any (n : Int) (by omega) (by omega) wz)
    have HB : Hid ((Lib.bitLen n : Int) ≠ 0) := Lib.hid (by
      have hn50 : n < 50 := by omega
      have : ∀ m : Nat, m < 50 → 12 < m → (Lib.bitLen m : Int) ≠ 0 := by decide +kernel
      exact this n hn50 h12)
    have HH := Lib.hid h
    have hwn : IntKind.u64.wrap (n : Int) = (n : Int) := by simp [IntKind.wrap, IntKind.signed, IntKind.bits]; omega
    clear hC hS h hn
    go_enter Tryz.func39, Tryz.ntmps39
    go_wp2_with (first
      | (go_at_call 66; (with_reducible refine (HL.out _).mono ?_); rintro e w1 ⟨rfl, rfl⟩)
      | (go_at_call 65; (with_reducible refine (HP.out _ HB.out _ HH.out).mono ?_); rintro e w1 ⟨rfl, hs⟩))
    go_end0
    exact ⟨rfl, HH.out.ext hs⟩
  · exact sort_small w0 recv cmp g n c zs hC hn h12 w h
end Go.Proofs.YteomcpplajeidaaGreat
