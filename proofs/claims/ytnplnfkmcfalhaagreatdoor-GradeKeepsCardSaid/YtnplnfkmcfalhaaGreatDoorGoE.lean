/-
  GradeKeeps, walked. Conditions: the arguments read as numbers, and the table of powers of ten.
-/
import Derived.Test.YtnplnfkmcfalhaaGreatDoorGoD
import Derived.Deep.RegionHeld3
namespace Go.Proofs.YtnplnfkmcfalhaaGreatDoor
set_option linter.unusedVariables false
set_option linter.unusedSimpArgs false
open Go.RowKit

theorem Grade_e (B p : Nat) (L : List Int) (C : List Cr) (D : List Dy) (a0 a1 a2 a3 a4 a5 a6 a7 : Int) (w : World) (h : RB B w p L C D)
    (hL : L.length ≤ 3) (hC : C.length ≤ 4) (hD : D.length ≤ 9) (hLo : ∀ x ∈ L, OkI x) (hDo : ∀ d ∈ D, OkD d) (h1 : OkI a1) (h2 : OkI a2) (h3 : OkI a3) (h4 : OkI a4) (h5 : OkI a5) (h6 : OkI a6) (h7 : OkI a7) :
    Calls Tryz.prog 19 #[.agg #[.int .i64 a0, .int .i64 a1, .int .i64 a2, .int .i64 a3, .int .i64 a4, .int .i64 a5, .int .i64 a6, .int .i64 a7], .pointer (some ⟨p, 0, none⟩)] w fun e w' =>
      ∃ ga gb gl gn gN gt, e = .returned (.agg #[.int .i64 ga, .int .i64 gb, .int .i64 gl, .string gn, .int .i64 gN, .int .i64 gt]) ∧ (Gd.mk ga gb gl gn gN gt).ok ∧ Ext w w' :=
  (Grade_any B p L C D a0 a1 a2 a3 a4 a5 a6 a7 w h hL hC hD hLo hDo h1 h2 h3 h4 h5 h6 h7).mono fun _ _ ⟨⟨ga, gb, gl, gn, gN, gt⟩, he, hg, hx⟩ => ⟨ga, gb, gl, gn, gN, gt, he, hg, hx⟩

theorem B2.none {w0 w : World} {p1 p2 : Nat} {b1 b2 : Bk} {o : Option Nat} (h : B2 w0 w p1 b1 p2 b2 o) : B2 w0 w p1 b1 p2 b2 none := by
  obtain ⟨F1, F2, h1, h2, h3, h4, h5, h6⟩ := h
  exact ⟨F1, F2, h1, h2, h3, h4, fun k hk => (by cases hk), h6⟩
/-- The grades that were changed, in a row of the call's own. -/
theorem changed_r {w0 w : World} {p1 p2 : Nat} {b1 b2 : Bk} {o : Option Nat} (h : B2 w0 w p1 b1 p2 b2 o) (hl : b1.old.length ≤ 100000) :
    Calls Tryz.prog 13 #[.pointer (some ⟨p1, 0, none⟩)] w fun e w' => ∃ A c, e = .returned (.slice A b1.old.length c) ∧ SR Gd.cs 6 w' (.slice A b1.old.length c) b1.old ∧ (∀ q, A = some ⟨q, 0, none⟩ → 0 < b1.old.length → w.heap.size ≤ q ∧ ∀ o, w'.frozen? ⟨q, o, none⟩ = false) ∧ Ext w w' :=
  (changed_2 h hl).mono fun _ _ ⟨r, he, hr, hw, hx⟩ => by
    obtain ⟨A, c, rfl⟩ := hr.form
    refine ⟨A, c, he, hr, fun q hq hpos => ?_, hx⟩
    subst hq
    rcases (hw w.heap.size (Nat.le_refl _)).2 with ⟨h1, h2⟩ | ⟨g, cap, cur, hv, hB, hb, -⟩
    · omega
    · injection hv with hv
      injection hv with hv
      injection hv with hv _ _
      subst hv
      exact ⟨hB, fun o => by simp [World.frozen?, hb]⟩

set_option maxRecDepth 100000 in
set_option maxHeartbeats 4000000 in
theorem keeps_walk (v0 v1 v2 va : Value) (ls : List Int) (cs ds ac : List (List Int)) (w : World) (ht : TabW w) (h0 : IRd w v0 ls) (h1 : RN 4 w v1 cs) (h2 : RN 2 w v2 ds) (h4 : RN 8 w va ac) :
    Calls Tryz.prog 4 #[.agg #[v0, v1, v2], va] w fun e w' => e = .returned (.bool true) ∧ Ext w w' := by
  obtain ⟨aa, ca, rfl, hal⟩ := h4.form
  have hal' : (ac.length : Int) ≤ 9223372036854775807 := by omega
  have H0 := Lib.hid h0; have H1 := Lib.hid h1; have H2 := Lib.hid h2; have H4 := Lib.hid h4; have HTB := Lib.hid ht
  clear h0 h1 h2 h4 ht
  go_enter Tryz.func4, Tryz.ntmps4
  go_upto_region 2 with (go_at_call 8; (with_reducible refine (sanity_any _).mono ?_); rintro e w1 ⟨rfl, hx1⟩)
  have hcb := keep_heap hx1 (heap_alloc_new w (.cells #[v0, v1, v2] 64))
  have hx1' : Ext w w1 := (Ext.alloc (Ext.refl _) _).trans hx1
  have HMA := Lib.hid (fun W (hW : Ext w W) => Make_any ls cs ds v0 v1 v2 W (H0.out.ext hW) (H1.out.ext hW) (H2.out.ext hW))
  have hLO := caL_ok H0.out 3
  have hCO := caC_ok H1.out 4
  have hDO := caD_ok H2.out 9
  have hLl : ((ls.take 3).map caL1).length ≤ 3 := by simp; omega
  have hCl : ((cs.take 4).map caC1).length ≤ 4 := by simp; omega
  have hDl : ((ds.take 9).map caD1).length ≤ 9 := by simp; omega
  have HCN : Hid (∀ x, ((newB ((ls.take 3).map caL1) ((cs.take 4).map caC1) ((ds.take 9).map caD1)).crit x).isSome → x.size ≤ 1000) := Lib.hid fun x hx => newB_name hx
  obtain ⟨LT, hLT⟩ : ∃ LT, LT = (ls.take 3).map caL1 := ⟨_, rfl⟩
  obtain ⟨CT, hCT⟩ : ∃ CT, CT = (cs.take 4).map caC1 := ⟨_, rfl⟩
  obtain ⟨DT, hDT⟩ : ∃ DT, DT = (ds.take 9).map caD1 := ⟨_, rfl⟩
  rw [← hLT, ← hCT, ← hDT] at HCN
  rw [← hLT] at hLO hLl HMA
  rw [← hCT] at hCO hCl HMA
  rw [← hDT] at hDO hDl HMA
  clear hLT hCT hDT
  have HX1 := Lib.hid hx1'
  have HCB := Lib.hid hcb
  have HLO := Lib.hid hLO; have HCO := Lib.hid hCO; have HDO := Lib.hid hDO
  clear hcb hx1 hx1' hLO hCO hDO H0 H1 H2
  go_upto_region 3 with (first
    | (refine wpList_load_row (hgd := rfl) 64 (.tmp 2) rfl w.heap.size (by rfl) 64 _ _ _ HCB.out Tryz.underlying64 rfl (by kernel_rfl) ?_)
    | (go_at_call 16; (with_reducible refine (HMA.out _ HX1.out).mono ?_); rintro e w2 ⟨vl, vc, vd, rfl, hx2, hr1, hr2, hr3⟩; obtain ⟨lb, lc, rfl⟩ := (SR.of_row (cs := Lt.cs) (fun _ => rfl) hr1 (by omega)).form; obtain ⟨cb, cc, rfl⟩ := (SR.of_row (cs := Cr.cs) (fun _ => rfl) hr2 (by omega)).form; obtain ⟨db, dc, rfl⟩ := (SR.of_row (cs := Dy.cs) (fun _ => rfl) hr3 (by omega)).form)
    | (refine wpList_store_row (hgd := rfl) 55 (.tmp 6) (.tmp 25) rfl w2.heap.size (by rfl) (tenC _ _) (by rfl) (tenC nilV nilV) 55 (heap_alloc_new w2 _) (by rfl) (by kernel_rfl) (ten_one _ _ (by rfl) (by rfl)) ?_))
  obtain ⟨W3, hW3⟩ : ∃ W3, W3 = (w2.alloc (.cells (tenC nilV nilV) 55)).setRow w2.heap.size (tenC (.slice lb LT.length lc) (.slice cb CT.length cc)) := ⟨_, rfl⟩
  have hT3 : W3.heap[w2.heap.size]? = some (.cells (tenC (.slice lb LT.length lc) (.slice cb CT.length cc)) 55) := by rw [hW3]; exact setRow_heap _ _ _ _ 55 _ (heap_alloc_new w2 _)
  have hx3 : Ext w2 W3 := by rw [hW3]; exact below_setRow (Ext.alloc (Ext.refl _) _) (Nat.le_refl _) _
  change Code.wp _ _ _ _ ((w2.alloc (.cells (tenC nilV nilV) 55)).setRow w2.heap.size (tenC (.slice lb LT.length lc) (.slice cb CT.length cc)))
  rw [← hW3]
  obtain ⟨pt, hpt⟩ : ∃ pt, pt = w2.heap.size := ⟨_, rfl⟩
  rw [← hpt] at hT3 ⊢
  have HX3 := Lib.hid ((HX1.out.trans hx2).trans hx3)
  have HO1 := Lib.hid (row_base (row_ext hr1 hx3) HX1.out.size)
  have HO2 := Lib.hid (row_base (row_ext hr2 hx3) HX1.out.size)
  have HO3 := Lib.hid (row_base (row_ext hr3 hx3) HX1.out.size)
  have HR1 := Lib.hid (SR.of_row (cs := Lt.cs) (fun _ => rfl) (row_ext hr1 hx3) (by omega))
  have HR2 := Lib.hid (SR.of_row (cs := Cr.cs) (fun _ => rfl) (row_ext hr2 hx3) (by omega))
  have HR3 := Lib.hid (SR.of_row (cs := Dy.cs) (fun _ => rfl) (row_ext hr3 hx3) (by omega))
  have HT3 := Lib.hid hT3
  have HCB3 := Lib.hid (keep_heap (hx2.trans hx3) HCB.out)
  clear hW3 hT3 hpt hx2 hx3 hr1 hr2 hr3 HX1 HCB
  refine Rr.wp_region [(0, .y), (1, .y), (3, .y), (4, .y), (2, .z), (5, .z)] (fun _ => (.cells #[] 29, Rg.ptr)) (by kernel_rfl) (by kernel_rfl) ?_
  (refine Rr.wr_y (by simp only [List.getElem?_toArray, List.getElem?_cons_succ, List.getElem?_cons_zero]; rfl) (by rfl) ?_
   apply Exists.intro
   refine ⟨fun wz hw _ => ?_, ?_⟩
   · have hcz := hw.cells.1
     exact up_row (by rfl) ((hw.block _ (Rg.lt_of_heap HT3.out)).trans HT3.out) Tryz.underlying55 (by kernel_rfl)
   simp only [Act.put, List.setIfInBounds_toArray, List.set_cons_zero, List.set_cons_succ])
  (refine Rr.wr_y (by simp only [List.getElem?_toArray, List.getElem?_cons_succ, List.getElem?_cons_zero]; rfl) (by rfl) ?_
   apply Exists.intro
   refine ⟨fun wz hw _ => ?_, ?_⟩
   · have hcz := hw.cells.1
     go_simp
     (with_reducible exact Rg.up_value)
   simp only [Act.put, List.setIfInBounds_toArray, List.set_cons_zero, List.set_cons_succ])
  (refine Rr.wr_y (by simp only [List.getElem?_toArray, List.getElem?_cons_succ, List.getElem?_cons_zero]; rfl) (by rfl) ?_
   apply Exists.intro
   refine ⟨fun wz hw _ => ?_, ?_⟩
   · have hcz := hw.cells.1
     exact up_row (by rfl) ((hw.block _ (Rg.lt_of_heap HT3.out)).trans HT3.out) Tryz.underlying55 (by kernel_rfl)
   simp only [Act.put, List.setIfInBounds_toArray, List.set_cons_zero, List.set_cons_succ])
  (refine Rr.wr_y (by simp only [List.getElem?_toArray, List.getElem?_cons_succ, List.getElem?_cons_zero]; rfl) (by rfl) ?_
   apply Exists.intro
   refine ⟨fun wz hw _ => ?_, ?_⟩
   · have hcz := hw.cells.1
     go_simp
     (with_reducible exact Rg.up_value)
   simp only [Act.put, List.setIfInBounds_toArray, List.set_cons_zero, List.set_cons_succ])
  refine Rr.wr_z (NB W3.heap.size (newB LT CT DT)) (by simp only [List.getElem?_toArray, List.getElem?_cons_succ, List.getElem?_cons_zero]; rfl) (by rfl) (fun v w1 w2 h e => by first | exact Rd.ext e h | exact h.ext e) (fun wz hw hh => ?_) (fun u => ?_)
  · have hcz := hw.cells.1
    go_simp
    apply Rr.upR_enter
    (with_reducible refine (New_z W3.heap.size LT CT DT _ _ _ wz hw.size (HR1.out.ext hw) (HR2.out.ext hw) (HR3.out.ext hw) HLO.out HCO.out HDO.out (by omega)).mono ?_)
    rintro e w3 ⟨v3, rfl, hx3, hr3⟩
    exact ⟨v3, rfl, hx3, hr3⟩
  simp only [Act.put, List.setIfInBounds_toArray, List.set_cons_zero, List.set_cons_succ]
  refine Rr.wr_z (RBv W3.heap.size (lotsW LT) (crisW CT) (dutsW DT)) (by simp only [List.getElem?_toArray, List.getElem?_cons_succ, List.getElem?_cons_zero]; rfl) (by rfl) (fun v w1 w2 h e => by first | exact Rd.ext e h | exact h.ext e) (fun wz hw hh => ?_) (fun u => ?_)
  · have hcz := hw.cells.1
    go_simp
    apply Rr.upR_enter
    (with_reducible refine (refNew_z W3.heap.size LT CT DT _ _ _ wz hw.size (HR1.out.ext hw) (HR2.out.ext hw) (HR3.out.ext hw) HLO.out (by omega) (by omega) (by omega)).mono ?_)
    rintro e w3 ⟨v3, rfl, hx3, hr3⟩
    exact ⟨v3, rfl, hx3, hr3⟩
  simp only [Act.put, List.setIfInBounds_toArray, List.set_cons_zero, List.set_cons_succ]
  refine Rr.wr_nil ?_
  intro W4 hx4 hh
  obtain ⟨pw, hpw, hrb⟩ := hh _ List.mem_cons_self
  obtain ⟨p1, F1, hp1, hb1, hF1⟩ := hh _ (List.mem_cons_of_mem _ List.mem_cons_self)
  subst hpw hp1
  simp only [List.length_cons, List.length_nil, List.drop_succ_cons, List.drop_zero, Nat.reduceAdd]
  have HX4 := Lib.hid hx4; have HRB := Lib.hid hrb; have HB1 := Lib.hid hb1; have HF1 := Lib.hid hF1
  have HXW4 := Lib.hid (HX3.out.trans hx4)
  have HCB4 := Lib.hid (keep_heap hx4 HCB3.out)
  clear hh hx4 hrb hb1 hF1 HR1 HR2 HR3 HCB3
  go_upto_region 5 with (first
    | (refine wpList_load_row (hgd := rfl) 64 (.tmp 2) rfl w.heap.size (by rfl) 64 _ _ _ HCB4.out Tryz.underlying64 rfl (by kernel_rfl) ?_)
    | (go_at_call 16; (with_reducible refine (HMA.out _ HXW4.out).mono ?_); rintro e w5 ⟨vl, vc, vd, rfl, hx5, hr1, hr2, hr3⟩; obtain ⟨lb2, lc2, rfl⟩ := (SR.of_row (cs := Lt.cs) (fun _ => rfl) hr1 (by omega)).form; obtain ⟨cb2, cc2, rfl⟩ := (SR.of_row (cs := Cr.cs) (fun _ => rfl) hr2 (by omega)).form; obtain ⟨db2, dc2, rfl⟩ := (SR.of_row (cs := Dy.cs) (fun _ => rfl) hr3 (by omega)).form)
    | (refine wpList_store_row (hgd := rfl) 55 (.tmp 10) (.tmp 36) rfl w5.heap.size (by rfl) (tenC _ _) (by rfl) (tenC nilV nilV) 55 (heap_alloc_new w5 _) (by rfl) (by kernel_rfl) (ten_one _ _ (by rfl) (by rfl)) ?_))
  obtain ⟨W6, hW6⟩ : ∃ W6, W6 = (w5.alloc (.cells (tenC nilV nilV) 55)).setRow w5.heap.size (tenC (.slice lb2 LT.length lc2) (.slice cb2 CT.length cc2)) := ⟨_, rfl⟩
  have hT6 : W6.heap[w5.heap.size]? = some (.cells (tenC (.slice lb2 LT.length lc2) (.slice cb2 CT.length cc2)) 55) := by rw [hW6]; exact setRow_heap _ _ _ _ 55 _ (heap_alloc_new w5 _)
  have hx6 : Ext w5 W6 := by rw [hW6]; exact below_setRow (Ext.alloc (Ext.refl _) _) (Nat.le_refl _) _
  change Code.wp _ _ _ _ ((w5.alloc (.cells (tenC nilV nilV) 55)).setRow w5.heap.size (tenC (.slice lb2 LT.length lc2) (.slice cb2 CT.length cc2)))
  rw [← hW6]
  obtain ⟨pt2, hpt2⟩ : ∃ pt2, pt2 = w5.heap.size := ⟨_, rfl⟩
  rw [← hpt2] at hT6 ⊢
  have HX6 := Lib.hid (hx5.trans hx6)
  have HN2 := Lib.hid (New_any LT CT DT _ _ _ W6 (SR.of_row (cs := Lt.cs) (fun _ => rfl) (row_ext hr1 hx6) (by omega)) (SR.of_row (cs := Cr.cs) (fun _ => rfl) (row_ext hr2 hx6) (by omega)) (SR.of_row (cs := Dy.cs) (fun _ => rfl) (row_ext hr3 hx6) (by omega)) HLO.out HCO.out HDO.out (by omega))
  have HT6 := Lib.hid hT6
  clear hW6 hT6 hpt2 hx5 hx6 hr1 hr2 hr3
  go_upto_region 6 with (first
    | (refine wpList_load_row (hgd := rfl) 55 (.tmp 10) rfl pt2 (by rfl) 55 _ _ _ HT6.out Tryz.underlying55 rfl (by kernel_rfl) ?_)
    | (go_at_call 15; (with_reducible refine HN2.out.mono ?_); rintro e w7 ⟨p2, F2, rfl, hb2, hF2, hx7⟩))
  have HX7 := Lib.hid ((HX4.out.trans HX6.out).trans hx7)
  have HX47 := Lib.hid (HX6.out.trans hx7)
  have HRB7 := Lib.hid (HRB.out.ext HX47.out)
  have HB7 := Lib.hid (HB1.out.ext HX47.out)
  have HB72 := Lib.hid hb2
  have HF2 : Hid (∀ k ∈ F2, W4.heap.size ≤ k) := Lib.hid fun k hk => Nat.le_trans HX6.out.size (hF2 k hk)
  have HF12 : Hid (∀ k ∈ F1, k ∉ F2) := Lib.hid fun k hk hm => by have := HF2.out k hm; have := HB1.out.lt k hk; omega
  have HKS : Hid (KS w.heap.size W3.heap.size w7 pt (tenC (.slice lb LT.length lc) (.slice cb CT.length cc)) lb LT.length cb CT.length db DT.length w7) := Lib.hid ⟨MK.refl _ _ _, keep_heap HX7.out HT3.out, (RO.of_row HO1.out (Nat.le_refl _)).ext HX7.out, (RO.of_row HO2.out (Nat.le_refl _)).ext HX7.out, (RO.of_row HO3.out (Nat.le_refl _)).ext HX7.out⟩
  have HGI : Hid (KP (newB LT CT DT) (newB LT CT DT) 0) := Lib.hid (KP.start rfl rfl rfl)
  have HXW := Lib.hid (HX3.out.trans HX7.out)
  have HS34 : Hid (W3.heap.size ≤ W4.heap.size) := Lib.hid HX4.out.size
  have HN0 : Hid (w.heap.size ≤ W3.heap.size) := Lib.hid HX3.out.size
  obtain ⟨n0, hn0⟩ : ∃ n0, n0 = W3.heap.size := ⟨_, rfl⟩
  rw [← hn0] at HKS HRB7 HF1 HS34 HN0
  clear hn0 HX7 HX47 HX6 HX4 HX3 HB1 HRB HN2 HT6 HO1 HO2 HO3 HT3 HMA HCB4 HXW4
  have k1 : w7.cell? ⟨pt, 1, none⟩ = some (.slice lb LT.length lc) := cell_of_row w7 pt 1 _ _ _ HKS.out.ten
  have kl := Rg.lt_of_heap HKS.out.ten
  go_upto_region 7 with (fail)
  clear k1 kl
  go_loopw [44] (fun k wr => ∃ i : Nat, k = .int .i64 i ∧ i ≤ LT.length ∧ KS w.heap.size n0 w7 pt (tenC (.slice lb LT.length lc) (.slice cb CT.length cc)) lb LT.length cb CT.length db DT.length wr) (fun k _ => LT.length - (iof k).toNat)
  case atStart => exact ⟨0, rfl, Nat.zero_le _, HKS.out⟩
  case round =>
    obtain ⟨i, rfl, hi, hks⟩ := hrel
    by_cases hil : i < LT.length
    · obtain ⟨q, rfl, g1, g2, g3, g4, g5, cur, g6⟩ := hks.lots.at (by omega)
      obtain ⟨x0, c0⟩ := g4 i 0 hil (by decide)
      have f0 := g5 (i * 2)
      simp only [Nat.add_zero] at c0
      have e1 : wr.cell? ⟨pt, 1, none⟩ = some (.slice (some ⟨q, 0, none⟩) LT.length lc) := cell_of_row wr pt 1 _ _ _ hks.ten
      have pl := Rg.lt_of_heap hks.ten
      have hne := KS.ne hks.ten g6 (by decide)
      have HK := Lib.hid hks
      have G1 := Lib.hid g1; have G2 := Lib.hid g2; have GN := Lib.hid hne
      clear g4 g5 g6 hks g1 g2 hne
      go_wp2_with (fail)
      exact ⟨⟨i + 1, by simp, by omega, HK.out.set G1.out G2.out GN.out _ _⟩, by simp [iof]; omega⟩
    · obtain rfl : i = LT.length := by omega
      have HK1 := Lib.hid hks
      have k1 : wr.cell? ⟨pt, 2, none⟩ = some (.slice cb CT.length cc) := cell_of_row wr pt 2 _ _ _ hks.ten
      have kl := Rg.lt_of_heap hks.ten
      clear hks hi hil HKS
      go_upto_region 12 with (fail)
      clear k1 kl
      obtain ⟨wa, hwa⟩ : ∃ wa, wa = wr := ⟨_, rfl⟩
      rw [← hwa] at HK1 ⊢
      clear hwa
      go_loopw [56] (fun k wr => ∃ i : Nat, k = .int .i64 i ∧ i ≤ CT.length ∧ KS w.heap.size n0 w7 pt (tenC (.slice lb LT.length lc) (.slice cb CT.length cc)) lb LT.length cb CT.length db DT.length wr) (fun k _ => CT.length - (iof k).toNat)
      case atStart => exact ⟨0, rfl, Nat.zero_le _, HK1.out⟩
      case round =>
        obtain ⟨i, rfl, hi, hks⟩ := hrel
        by_cases hil : i < CT.length
        · obtain ⟨q, rfl, g1, g2, g3, g4, g5, cur, g6⟩ := hks.cris.at (by omega)
          obtain ⟨x0, c0⟩ := g4 i 0 hil (by decide)
          obtain ⟨x1, c1⟩ := g4 i 1 hil (by decide)
          obtain ⟨x2, c2⟩ := g4 i 2 hil (by decide)
          obtain ⟨x3, c3⟩ := g4 i 3 hil (by decide)
          obtain ⟨x4, c4⟩ := g4 i 4 hil (by decide)
          have f0 := g5 (i * 5)
          have f1 := g5 (i * 5 + 1)
          have f2 := g5 (i * 5 + 2)
          have f3 := g5 (i * 5 + 3)
          have f4 := g5 (i * 5 + 4)
          simp only [Nat.add_zero] at c0
          have e1 : wr.cell? ⟨pt, 2, none⟩ = some (.slice (some ⟨q, 0, none⟩) CT.length cc) := cell_of_row wr pt 2 _ _ _ hks.ten
          have pl := Rg.lt_of_heap hks.ten
          have hne := KS.ne hks.ten g6 (by decide)
          have HK := Lib.hid hks
          have G1 := Lib.hid g1; have G2 := Lib.hid g2; have GN := Lib.hid hne
          clear g4 g5 g6 hks g1 g2 hne
          go_wp2_with (fail)
          exact ⟨⟨i + 1, by simp, by omega, ((((HK.out.set G1.out G2.out GN.out _ _).set G1.out G2.out GN.out _ _).set G1.out G2.out GN.out _ _).set G1.out G2.out GN.out _ _).set G1.out G2.out GN.out _ _⟩, by simp [iof]; omega⟩
        · obtain rfl : i = CT.length := by omega
          have HK2 := Lib.hid hks
          clear hks hi hil HK1
          go_upto_region 17 with (fail)
          obtain ⟨wa, hwa⟩ : ∃ wa, wa = wr := ⟨_, rfl⟩
          rw [← hwa] at HK2 ⊢
          clear hwa
          go_loopw [67] (fun k wr => ∃ i : Nat, k = .int .i64 i ∧ i ≤ DT.length ∧ KS w.heap.size n0 w7 pt (tenC (.slice lb LT.length lc) (.slice cb CT.length cc)) lb LT.length cb CT.length db DT.length wr) (fun k _ => DT.length - (iof k).toNat)
          case atStart => exact ⟨0, rfl, Nat.zero_le _, HK2.out⟩
          case round =>
            obtain ⟨i, rfl, hi, hks⟩ := hrel
            by_cases hil : i < DT.length
            · obtain ⟨q, rfl, g1, g2, g3, g4, g5, cur, g6⟩ := hks.duts.at (by omega)
              obtain ⟨x0, c0⟩ := g4 i 0 hil (by decide)
              obtain ⟨x1, c1⟩ := g4 i 1 hil (by decide)
              have f0 := g5 (i * 2)
              have f1 := g5 (i * 2 + 1)
              simp only [Nat.add_zero] at c0
              have hne := KS.ne hks.ten g6 (by decide)
              have HK := Lib.hid hks
              have G1 := Lib.hid g1; have G2 := Lib.hid g2; have GN := Lib.hid hne
              clear g4 g5 g6 hks g1 g2 hne
              go_wp2_with (fail)
              exact ⟨⟨i + 1, by simp, by omega, (HK.out.set G1.out G2.out GN.out _ _).set G1.out G2.out GN.out _ _⟩, by simp [iof]; omega⟩
            · obtain rfl : i = DT.length := by omega
              have hxw : Ext w wr := Below.trans HXW.out (hks.mid.below HXW.out.size)
              have HB2 : Hid (B2 w wr p1 (newB LT CT DT) p2 (newB LT CT DT) none) := Lib.hid ⟨F1, F2, HB7.out.mk hks.mid HF1.out, HB72.out.mk hks.mid (fun k hk => Nat.le_trans HS34.out (HF2.out k hk)), fun k hk => ⟨Nat.le_trans HN0.out (HF1.out k hk), HF12.out k hk⟩, fun k hk => Nat.le_trans HN0.out (Nat.le_trans HS34.out (HF2.out k hk)), fun k hk => (by cases hk), hxw⟩
              have HRB8 := Lib.hid (HRB7.out.mk hks.mid)
              clear hks hi hil HK2 hxw HB7 HB72 HRB7 HF1 HF2 HF12 HS34 HXW
              obtain ⟨hLo, hLl2⟩ := lotsW_ok HLO.out
              obtain ⟨hDo, hDl2⟩ := dutsW_ok HDO.out
              have hL3 : (lotsW LT).length ≤ 3 := by omega
              have hC3 : (crisW CT).length ≤ 4 := Nat.le_trans (crisW_ok HCO.out).2 hCl
              have hD3 : (dutsW DT).length ≤ 9 := by omega
              have HLo := Lib.hid hLo; have HDo := Lib.hid hDo
              clear hLo hDo hLl2 hDl2 HLO HDO HCO
              generalize lotsW LT = L at *
              generalize crisW CT = C at *
              generalize dutsW DT = D at *
              generalize newB LT CT DT = b0 at *
              go_upto_region 22 with (fail)
              obtain ⟨wa, hwa⟩ : ∃ wa, wa = wr := ⟨_, rfl⟩
              rw [← hwa] at HB2 HRB8 ⊢
              clear hwa
              go_loopw [16] (fun k wr => ∃ (i : Nat) (b : Bk), k = .int .i64 i ∧ i ≤ ac.length ∧ i ≤ 40 ∧ B2 w wr p1 b p2 b none ∧ RB n0 wr pw L C D ∧ Hid (KP b0 b i)) (fun k _ => 40 - (iof k).toNat)
              case atStart => exact ⟨0, b0, rfl, Nat.zero_le _, by omega, HB2.out, HRB8.out, HGI⟩
              case round =>
                obtain ⟨i, b, rfl, hi, hi3, hbx, hrb, HKP⟩ := hrel
                have hol : b.old.length ≤ 40 := Nat.le_trans HKP.out.old hi3
                by_cases hil : i < ac.length ∧ i < 40
                · obtain ⟨hil, hi30⟩ := hil
                  have hxw := hbx.ex
                  obtain ⟨qb, qo, rfl, hcell, hok⟩ := (H4.out.ext hxw).at i hil
                  have q0 := hcell 0 (by decide)
                  have q1 := hcell 1 (by decide)
                  have q2 := hcell 2 (by decide)
                  have q3 := hcell 3 (by decide)
                  have q4 := hcell 4 (by decide)
                  have q5 := hcell 5 (by decide)
                  have q6 := hcell 6 (by decide)
                  have q7 := hcell 7 (by decide)
                  have hbl := World.block_lt_of_cell? wr _ q3
                  have HO3 := Lib.hid (hok 3)
                  have HO0 := Lib.hid (hok 0)
                  have HGR := Lib.hid (fun W (hW : Ext wr W) => Grade_e n0 pw L C D (ac[i].getD 0 0) (ac[i].getD 1 0) (ac[i].getD 2 0) (ac[i].getD 3 0) (ac[i].getD 4 0) (ac[i].getD 5 0) (ac[i].getD 6 0) (ac[i].getD 7 0) W (hrb.ext hW) hL3 hC3 hD3 HLo.out HDo.out (hok 1) (hok 2) (hok 3) (hok 4) (hok 5) (hok 6) (hok 7))
                  have HC8 : Hid (∀ W, Ext w W → W.cell? ⟨qb, qo + i * 8, none⟩ = some (.int .i64 (ac[i].getD 0 0)) ∧ W.cell? ⟨qb, qo + i * 8 + 1, none⟩ = some (.int .i64 (ac[i].getD 1 0)) ∧ W.cell? ⟨qb, qo + i * 8 + 2, none⟩ = some (.int .i64 (ac[i].getD 2 0)) ∧ W.cell? ⟨qb, qo + i * 8 + 3, none⟩ = some (.int .i64 (ac[i].getD 3 0)) ∧ W.cell? ⟨qb, qo + i * 8 + 4, none⟩ = some (.int .i64 (ac[i].getD 4 0)) ∧ W.cell? ⟨qb, qo + i * 8 + 5, none⟩ = some (.int .i64 (ac[i].getD 5 0)) ∧ W.cell? ⟨qb, qo + i * 8 + 6, none⟩ = some (.int .i64 (ac[i].getD 6 0)) ∧ W.cell? ⟨qb, qo + i * 8 + 7, none⟩ = some (.int .i64 (ac[i].getD 7 0)) ∧ qb < W.heap.size) := Lib.hid fun W hW => by
                    obtain ⟨b1', o1', e, hc, -⟩ := (H4.out.ext hW).at i hil
                    injection e with e
                    injection e with e1 e2
                    subst e1 e2
                    exact ⟨hc 0 (by decide), hc 1 (by decide), hc 2 (by decide), hc 3 (by decide), hc 4 (by decide), hc 5 (by decide), hc 6 (by decide), hc 7 (by decide), World.block_lt_of_cell? W _ (hc 3 (by decide))⟩
                  clear hcell hok hxw
                  generalize ac[i].getD 0 0 = a0 at *
                  generalize ac[i].getD 1 0 = a1 at *
                  generalize ac[i].getD 2 0 = a2 at *
                  generalize ac[i].getD 3 0 = a3 at *
                  generalize ac[i].getD 4 0 = a4 at *
                  generalize ac[i].getD 5 0 = a5 at *
                  generalize ac[i].getD 6 0 = a6 at *
                  generalize ac[i].getD 7 0 = a7 at *
                  simp only [Nat.add_zero] at q0
                  have hii : (i : Int) < ac.length := by omega
                  have HBXr := Lib.hid hbx; have HRBr := Lib.hid hrb
                  clear hbx hrb
                  have HMD := Lib.hid (fun wz => Mod_any a0 8 (by omega) (by omega) HO0.out wz)
                  by_cases hw5 : modZ a0 8 > 5
                  · have HK2 := Lib.hid (HKP.out.final a3)
                    have HF1 := Lib.hid (fun W (hW : Ext wr W) => final_2 (bid := a3) (HBXr.out.ext hW) HO3.out)
                    have HF2 : Hid (∀ W, B2 w W p1 (finB b a3) p2 b none → Calls Tryz.prog 11 #[.pointer (some ⟨p2, 0, none⟩), .int .i64 a3] W fun e w' => e = .returned (.int .i64 (finE b a3)) ∧ B2 w w' p1 (finB b a3) p2 (finB b a3) none ∧ Kc W w') := Lib.hid fun W hW => (final_2 (bid := a3) hW.swap HO3.out).mono fun _ _ ⟨he, hb, _, hk, _⟩ => ⟨he, hb.swap, hk⟩
                    generalize finB b a3 = bf at *
                    generalize modZ a0 8 = m0 at *
                    go_upto_region 25 with (go_at_call 18; (with_reducible refine (HMD.out _).mono ?_); rintro e w9 ⟨rfl, hx9⟩)
                    clear q0 q1 q2 q3 q4 q5 q6 q7 hbl
                    obtain ⟨-, -, -, q3, -, -, -, -, hbl⟩ := HC8.out w9 (HBXr.out.ext hx9).ex
                    go_upto_region 26 with (go_at_call 11; (with_reducible refine (HF1.out _ hx9).mono ?_); rintro e w10 ⟨rfl, hb10, -, hk10, -⟩)
                    clear q3 hbl
                    obtain ⟨-, -, -, q3, -, -, -, -, hbl⟩ := HC8.out w10 hb10.ex
                    have HRB9 := Lib.hid ((HRBr.out.ext hx9).kc hk10)
                    clear hk10
                    go_wp2_with (go_at_call 11; (with_reducible refine (HF2.out _ hb10).mono ?_); rintro e w11 ⟨rfl, hb11, hk11⟩)
                    exact ⟨⟨i + 1, bf, by simp, by omega, by omega, hb11, HRB9.out.kc hk11, HK2⟩, by simp [iof]; omega⟩
                  · have HKG : Hid (∀ g, KP b0 (giveR b g).2 (i + 1)) := Lib.hid fun g => HKP.out.give g
                    generalize modZ a0 8 = m0 at *
                    go_upto_region 27 with (go_at_call 18; (with_reducible refine (HMD.out _).mono ?_); rintro e w9 ⟨rfl, hx9⟩)
                    clear q0 q1 q2 q3 q4 q5 q6 q7 hbl
                    obtain ⟨q0, q1, q2, q3, q4, q5, q6, q7, hbl⟩ := HC8.out w9 (HBXr.out.ext hx9).ex
                    go_upto_region 28 with (go_at_call 19; (with_reducible refine (HGR.out _ hx9).mono ?_); rintro e w8 ⟨ga, gb, gl, gn, gN, gt, rfl, hgo, hx8⟩)
                    have hxa : Ext w8 (w8.alloc (.cells #[.int .i64 ga, .int .i64 gb, .int .i64 gl, .string gn, .int .i64 gN, .int .i64 gt] 23)) := Ext.alloc (Ext.refl _) _
                    have hq := heap_alloc_new w8 (.cells #[.int .i64 ga, .int .i64 gb, .int .i64 gl, .string gn, .int .i64 gN, .int .i64 gt] 23)
                    have hbq8 := HBXr.out.ext (hx9.trans hx8)
                    obtain ⟨qv, hqv⟩ : ∃ qv, qv = w8.heap.size := ⟨_, rfl⟩
                    have HBQ : Hid (B2 w (w8.alloc (.cells #[.int .i64 ga, .int .i64 gb, .int .i64 gl, .string gn, .int .i64 gN, .int .i64 gt] 23)) p1 b p2 b (some qv)) := Lib.hid (by
                      obtain ⟨F1, F2, h1, h2, h3, h4, h5, h6⟩ := hbq8
                      exact ⟨F1, F2, h1.ext hxa, h2.ext hxa, h3, h4, fun k hk => by
                        injection hk with hk
                        subst hk
                        exact ⟨fun hm => by have := h1.lt _ hm; omega, fun hm => by have := h2.lt _ hm; omega, by rw [World.size_alloc]; omega⟩, h6.trans hxa⟩)
                    have HRB9 := Lib.hid (HRBr.out.ext ((hx9.trans hx8).trans hxa))
                    rw [← hqv] at hq ⊢
                    clear hxa hqv hx8 hx9 hbq8 q0 q1 q2 q3 q4 q5 q6 q7 hbl HGR HBXr HRBr
                    generalize w8.alloc (.cells #[.int .i64 ga, .int .i64 gb, .int .i64 gl, .string gn, .int .i64 gN, .int .i64 gt] 23) = wA at *
                    have HQ := Lib.hid hq
                    have hol2 : b.old.length < 100000 := by omega
                    have HG1 : Hid (∀ W, Ext wA W → Calls Tryz.prog 10 #[.pointer (some ⟨p1, 0, none⟩), .agg #[.int .i64 ga, .int .i64 gb, .int .i64 gl, .string gn, .int .i64 gN, .int .i64 gt]] W fun e w' => e = .returned (.int .i64 (giveR b ⟨ga, gb, gl, gn, gN, gt⟩).1) ∧ B2 w w' p1 (giveR b ⟨ga, gb, gl, gn, gN, gt⟩).2 p2 b (some qv) ∧ RB n0 w' pw L C D ∧ w'.heap[qv]? = some (.cells #[.int .i64 ga, .int .i64 gb, .int .i64 gl, .string gn, .int .i64 gN, .int .i64 gt] 23)) := Lib.hid fun W hW =>
                      (give_2 (g := ⟨ga, gb, gl, gn, gN, gt⟩) (HBQ.out.ext hW) hgo hol2).mono fun _ _ ⟨he, hb, hk, hc, _⟩ => ⟨he, hb, (HRB9.out.ext hW).kc hc, (hk qv rfl).trans (keep_heap hW HQ.out)⟩
                    have HG2 : Hid (∀ W0 W, B2 w W0 p1 (giveR b ⟨ga, gb, gl, gn, gN, gt⟩).2 p2 b (some qv) → RB n0 W0 pw L C D → W0.heap[qv]? = some (.cells #[.int .i64 ga, .int .i64 gb, .int .i64 gl, .string gn, .int .i64 gN, .int .i64 gt] 23) → Ext W0 W → Calls Tryz.prog 10 #[.pointer (some ⟨p2, 0, none⟩), .agg #[.int .i64 ga, .int .i64 gb, .int .i64 gl, .string gn, .int .i64 gN, .int .i64 gt]] W fun e w' => e = .returned (.int .i64 (giveR b ⟨ga, gb, gl, gn, gN, gt⟩).1) ∧ B2 w w' p1 (giveR b ⟨ga, gb, gl, gn, gN, gt⟩).2 p2 (giveR b ⟨ga, gb, gl, gn, gN, gt⟩).2 (some qv) ∧ RB n0 w' pw L C D ∧ w'.heap[qv]? = some (.cells #[.int .i64 ga, .int .i64 gb, .int .i64 gl, .string gn, .int .i64 gN, .int .i64 gt] 23)) := Lib.hid fun W0 W h1 h2 h3 hW =>
                      (give_2 (g := ⟨ga, gb, gl, gn, gN, gt⟩) (h1.ext hW).swap hgo hol2).mono fun _ _ ⟨he, hb, hk, hc, _⟩ => ⟨he, hb.swap, (h2.ext hW).kc hc, (hk qv rfl).trans (keep_heap hW h3)⟩
                    have HKB := Lib.hid (HKG.out ⟨ga, gb, gl, gn, gN, gt⟩)
                    clear hgo hol2 HKG HKP hol HBQ HRB9
                    generalize (giveR b ⟨ga, gb, gl, gn, gN, gt⟩).1 = ge at *
                    generalize (giveR b ⟨ga, gb, gl, gn, gN, gt⟩).2 = b' at *
                    have c0 : wA.cell? ⟨qv, 0, none⟩ = some (.int .i64 ga) := cell_of_row wA qv 0 _ _ _ hq
                    have c1 : wA.cell? ⟨qv, 1, none⟩ = some (.int .i64 gb) := cell_of_row wA qv 1 _ _ _ hq
                    have c2 : wA.cell? ⟨qv, 2, none⟩ = some (.int .i64 gl) := cell_of_row wA qv 2 _ _ _ hq
                    have c3 : wA.cell? ⟨qv, 3, none⟩ = some (.string gn) := cell_of_row wA qv 3 _ _ _ hq
                    have c4 : wA.cell? ⟨qv, 4, none⟩ = some (.int .i64 gN) := cell_of_row wA qv 4 _ _ _ hq
                    have c5 : wA.cell? ⟨qv, 5, none⟩ = some (.int .i64 gt) := cell_of_row wA qv 5 _ _ _ hq
                    clear hq
                    go_region_held3 (fun w' => w'.cell? ⟨qv, 0, none⟩ = some (.int .i64 ga) ∧ w'.cell? ⟨qv, 1, none⟩ = some (.int .i64 gb) ∧ w'.cell? ⟨qv, 2, none⟩ = some (.int .i64 gl) ∧ w'.cell? ⟨qv, 3, none⟩ = some (.string gn) ∧ w'.cell? ⟨qv, 4, none⟩ = some (.int .i64 gN) ∧ w'.cell? ⟨qv, 5, none⟩ = some (.int .i64 gt)) (first | exact ⟨m0', m1', m2', m3', m4', m5'⟩ | exact ⟨k0', k1', k2', k3', k4', k5'⟩ | exact ⟨c0, c1, c2, c3, c4, c5⟩ | go_keep)
                      (first
                        | (go_at_call_of 10 (Value.pointer (some ⟨p1, 0, none⟩)); refine (HG1.out _ ?_).mono ?_; (exact (by with_reducible repeat (first | exact Ext.refl _ | assumption | apply Ext.drewN | apply Ext.drew | apply Ext.alloc | (refine Ext.setCell ?_ (by simp <;> omega) _) | (refine Ext.trans ?_ (by assumption))))); rintro e wB ⟨rfl, hbB, hrB, hqB⟩; have k0' : wB.cell? ⟨qv, 0, none⟩ = some (.int .i64 ga) := cell_of_row wB qv 0 _ _ _ hqB; have k1' : wB.cell? ⟨qv, 1, none⟩ = some (.int .i64 gb) := cell_of_row wB qv 1 _ _ _ hqB; have k2' : wB.cell? ⟨qv, 2, none⟩ = some (.int .i64 gl) := cell_of_row wB qv 2 _ _ _ hqB; have k3' : wB.cell? ⟨qv, 3, none⟩ = some (.string gn) := cell_of_row wB qv 3 _ _ _ hqB; have k4' : wB.cell? ⟨qv, 4, none⟩ = some (.int .i64 gN) := cell_of_row wB qv 4 _ _ _ hqB; have k5' : wB.cell? ⟨qv, 5, none⟩ = some (.int .i64 gt) := cell_of_row wB qv 5 _ _ _ hqB)
                        | (go_at_call_of 10 (Value.pointer (some ⟨p2, 0, none⟩)); refine (HG2.out _ _ hbB hrB hqB ?_).mono ?_; (exact (by with_reducible repeat (first | exact Ext.refl _ | assumption | apply Ext.drewN | apply Ext.drew | apply Ext.alloc | (refine Ext.setCell ?_ (by simp <;> omega) _) | (refine Ext.trans ?_ (by assumption))))); rintro e wC ⟨rfl, hbC, hrC, hqC⟩; have m0' : wC.cell? ⟨qv, 0, none⟩ = some (.int .i64 ga) := cell_of_row wC qv 0 _ _ _ hqC; have m1' : wC.cell? ⟨qv, 1, none⟩ = some (.int .i64 gb) := cell_of_row wC qv 1 _ _ _ hqC; have m2' : wC.cell? ⟨qv, 2, none⟩ = some (.int .i64 gl) := cell_of_row wC qv 2 _ _ _ hqC; have m3' : wC.cell? ⟨qv, 3, none⟩ = some (.string gn) := cell_of_row wC qv 3 _ _ _ hqC; have m4' : wC.cell? ⟨qv, 4, none⟩ = some (.int .i64 gN) := cell_of_row wC qv 4 _ _ _ hqC; have m5' : wC.cell? ⟨qv, 5, none⟩ = some (.int .i64 gt) := cell_of_row wC qv 5 _ _ _ hqC))
                    have HBC := Lib.hid hbC.none; have HRC := Lib.hid hrC
                    have HOLL : Hid (b'.old.length ≤ 41) := Lib.hid (Nat.le_trans HKB.out.old (by omega))
                    clear hbB hrB hqB hbC hrC hqC k0' k1' k2' k3' k4' k5' m0' m1' m2' m3' m4' m5' c0 c1 c2 c3 c4 c5 HG1 HG2 HQ
                    have HCH := Lib.hid (fun W (hW : Ext wC W) => changed_r (HBC.out.ext hW) (by have := HOLL.out; omega))
                    go_upto_region 31 with (go_at_call 13; (with_reducible refine (HCH.out _ (Ext.refl _)).mono ?_); rintro e wD ⟨rA, rc, rfl, hsr, -, hxD⟩)
                    have HSR := Lib.hid hsr; have HXD := Lib.hid hxD
                    clear hsr hxD
                    have holz : (b'.old.length : Int) ≤ 41 := by have := HOLL.out; omega
                    generalize hob : b'.old = ob at *
                    go_loopw [122] (fun k wr => ∃ j : Nat, k = .int .i64 j ∧ j ≤ ob.length ∧ Ext wD wr) (fun k _ => ob.length - (iof k).toNat)
                    case atStart => exact ⟨0, rfl, Nat.zero_le _, Ext.refl _⟩
                    case round =>
                      obtain ⟨j, rfl, hj, hxj⟩ := hrel
                      by_cases hjl : j < ob.length
                      · obtain ⟨qb5, rfl, hcell⟩ := row_at (HSR.out.ext hxj) j hjl
                        have c0 := hcell 0 _ rfl
                        have c1 := hcell 1 _ rfl
                        have c2 := hcell 2 _ rfl
                        have c3 := hcell 3 _ rfl
                        have c4 := hcell 4 _ rfl
                        have c5 := hcell 5 _ rfl
                        clear hcell
                        obtain ⟨x, hx⟩ : ∃ x, x = ob[j] := ⟨_, rfl⟩
                        have HXE : Hid (∀ (h : j < ob.length), ob[j] = x) := Lib.hid fun _ => hx.symm
                        rw [← hx] at c0 c1 c2 c3 c4 c5
                        clear hx
                        obtain ⟨xa, xb, xl, xn, xN, xt⟩ := x
                        simp only [Nat.add_zero] at c0 c1 c2 c3 c4 c5
                        go_upto_region 33 with (fail)
                        have hxa : Ext wr (wr.alloc (.cells #[.int .i64 xa, .int .i64 xb, .int .i64 xl, .string xn, .int .i64 xN, .int .i64 xt] 23)) := Ext.alloc (Ext.refl _) _
                        have hq := heap_alloc_new wr (.cells #[.int .i64 xa, .int .i64 xb, .int .i64 xl, .string xn, .int .i64 xN, .int .i64 xt] 23)
                        obtain ⟨qx, hqx⟩ : ∃ qx, qx = wr.heap.size := ⟨_, rfl⟩
                        rw [← hqx] at hq ⊢
                        have HX5 := Lib.hid (hxj.trans hxa)
                        clear c0 c1 c2 c3 c4 c5 hxj hxa hqx
                        generalize wr.alloc (.cells #[.int .i64 xa, .int .i64 xb, .int .i64 xl, .string xn, .int .i64 xN, .int .i64 xt] 23) = W5 at *
                        have HQX := Lib.hid hq
                        clear hq
                        go_upto_region 34 with (go_at_call 13; (with_reducible refine (HCH.out _ (HXD.out.trans HX5.out)).mono ?_); rintro e wE ⟨A2, c2, rfl, hs2, hf2, hx2⟩)
                        obtain ⟨q2, rfl, hcell⟩ := row_at hs2 j hjl
                        obtain ⟨hq2, hf2⟩ := hf2 q2 rfl (by omega)
                        have d0 := hcell 0 _ rfl
                        have d1 := hcell 1 _ rfl
                        have d2 := hcell 2 _ rfl
                        have d3 := hcell 3 _ rfl
                        have d4 := hcell 4 _ rfl
                        have d5 := hcell 5 _ rfl
                        rw [HXE.out hjl] at d0 d1 d2 d3 d4 d5
                        simp only [Nat.add_zero] at d0
                        have f0 := hf2 (j * 6)
                        have f1 := hf2 (j * 6 + 1)
                        have f2 := hf2 (j * 6 + 2)
                        have f3 := hf2 (j * 6 + 3)
                        have f4 := hf2 (j * 6 + 4)
                        have f5 := hf2 (j * 6 + 5)
                        have HX2 := Lib.hid hx2; have HQ2 := Lib.hid hq2
                        clear hcell hf2 hs2 hx2 hq2
                        go_upto_region 35 with (fail)
                        have hxF : Ext W5 ((((((wE.setCell ⟨q2, j * 6, none⟩ (.int .i64 0)).setCell ⟨q2, j * 6 + 1, none⟩ (.int .i64 0)).setCell ⟨q2, j * 6 + 2, none⟩ (.int .i64 0)).setCell ⟨q2, j * 6 + 3, none⟩ (.string ⟨#[]⟩)).setCell ⟨q2, j * 6 + 4, none⟩ (.int .i64 0)).setCell ⟨q2, j * 6 + 5, none⟩ (.int .i64 0)) := (((((HX2.out.setCell HQ2.out _).setCell HQ2.out _).setCell HQ2.out _).setCell HQ2.out _).setCell HQ2.out _).setCell HQ2.out _
                        obtain ⟨wF, hwF⟩ : ∃ wF, wF = ((((((wE.setCell ⟨q2, j * 6, none⟩ (.int .i64 0)).setCell ⟨q2, j * 6 + 1, none⟩ (.int .i64 0)).setCell ⟨q2, j * 6 + 2, none⟩ (.int .i64 0)).setCell ⟨q2, j * 6 + 3, none⟩ (.string ⟨#[]⟩)).setCell ⟨q2, j * 6 + 4, none⟩ (.int .i64 0)).setCell ⟨q2, j * 6 + 5, none⟩ (.int .i64 0)) := ⟨_, rfl⟩
                        rw [← hwF] at hxF ⊢
                        have HQF := Lib.hid (keep_heap hxF HQX.out)
                        have HXF := Lib.hid (HX5.out.trans hxF)
                        clear d0 d1 d2 d3 d4 d5 f0 f1 f2 f3 f4 f5 hwF hxF HX2 HQ2
                        have HCF : Hid (∀ W, Ext wF W → Calls Tryz.prog 13 #[.pointer (some ⟨p1, 0, none⟩)] W fun e w' => ∃ A c, e = .returned (.slice A ob.length c) ∧ SR Gd.cs 6 w' (.slice A ob.length c) ob ∧ Ext wF w') := Lib.hid fun W hW => (HCH.out W ((HXD.out.trans HXF.out).trans hW)).mono fun _ _ ⟨A, c, he, hs, _, hx⟩ => ⟨A, c, he, hs, hW.trans hx⟩
                        have z0 : wF.cell? ⟨qx, 0, none⟩ = some (.int .i64 xa) := cell_of_row wF qx 0 _ _ _ HQF.out
                        have z1 : wF.cell? ⟨qx, 1, none⟩ = some (.int .i64 xb) := cell_of_row wF qx 1 _ _ _ HQF.out
                        have z2 : wF.cell? ⟨qx, 2, none⟩ = some (.int .i64 xl) := cell_of_row wF qx 2 _ _ _ HQF.out
                        have z3 : wF.cell? ⟨qx, 3, none⟩ = some (.string xn) := cell_of_row wF qx 3 _ _ _ HQF.out
                        have z4 : wF.cell? ⟨qx, 4, none⟩ = some (.int .i64 xN) := cell_of_row wF qx 4 _ _ _ HQF.out
                        have z5 : wF.cell? ⟨qx, 5, none⟩ = some (.int .i64 xt) := cell_of_row wF qx 5 _ _ _ HQF.out
                        have hjz : (j : Int) < ob.length := by omega
                        have hjz0 : (0 : Int) ≤ j := by omega
                        go_region_with (first | (go_at_call 13; refine (HCF.out _ ?_).mono ?_; (exact (by with_reducible repeat (first | exact Ext.refl _ | assumption | apply Ext.drewN | apply Ext.drew | apply Ext.alloc | (refine Ext.setCell ?_ (by simp <;> omega) _) | (refine Ext.trans ?_ (by assumption))))); rintro e wG ⟨A3, c3, rfl, hs3, hx3⟩; obtain ⟨q3, rfl, hc3⟩ := row_at hs3 j hjl; rw [HXE.out hjl] at hc3; have y0 := hc3 0 _ rfl; have y1 := hc3 1 _ rfl; have y2 := hc3 2 _ rfl; have y3 := hc3 3 _ rfl; have y4 := hc3 4 _ rfl; have y5 := hc3 5 _ rfl; simp only [Nat.add_zero] at y0; have hl3 := World.block_lt_of_cell? wG _ y0; have k0' : wG.cell? ⟨qx, 0, none⟩ = some (.int .i64 xa) := cell_of_row wG qx 0 _ _ _ (keep_heap hx3 HQF.out); have k1' : wG.cell? ⟨qx, 1, none⟩ = some (.int .i64 xb) := cell_of_row wG qx 1 _ _ _ (keep_heap hx3 HQF.out); have k2' : wG.cell? ⟨qx, 2, none⟩ = some (.int .i64 xl) := cell_of_row wG qx 2 _ _ _ (keep_heap hx3 HQF.out); have k3' : wG.cell? ⟨qx, 3, none⟩ = some (.string xn) := cell_of_row wG qx 3 _ _ _ (keep_heap hx3 HQF.out); have k4' : wG.cell? ⟨qx, 4, none⟩ = some (.int .i64 xN) := cell_of_row wG qx 4 _ _ _ (keep_heap hx3 HQF.out); have k5' : wG.cell? ⟨qx, 5, none⟩ = some (.int .i64 xt) := cell_of_row wG qx 5 _ _ _ (keep_heap hx3 HQF.out); have hxG := HXF.out.trans hx3))
                        all_goals (go_wp2_with (fail))
                        all_goals (exact ⟨⟨j + 1, by simp, by omega, (by with_reducible repeat (first | exact Ext.refl _ | assumption | apply Ext.drewN | apply Ext.drew | apply Ext.alloc | (refine Ext.setCell ?_ (by simp <;> omega) _) | (refine Ext.trans ?_ (by assumption))))⟩, by simp [iof]; omega⟩)
                      · obtain rfl : j = ob.length := by omega
                        have HXZ := Lib.hid (HXD.out.trans hxj)
                        clear hxj HSR HXD HCH
                        go_wp2_with (fail)
                        exact ⟨⟨i + 1, b', by simp, by omega, by omega, HBC.out.ext HXZ.out, HRC.out.ext HXZ.out, HKB⟩, by simp [iof]; omega⟩
                · have hcase : ((i : Int) < ac.length ∧ ¬ (i : Int) < 40) ∨ ¬ (i : Int) < ac.length := by omega
                  have HB12 := Lib.hid hbx
                  have HKE := HKP
                  clear hbx hrb hil
                  obtain ⟨ps, hps1, hps2⟩ := HKE.out.gr
                  obtain ⟨fs, hfs1, hfs2⟩ := HKE.out.fin
                  have HNM : Hid (∀ k g, b.gr k = some g → g.name.size ≤ 1000) := Lib.hid fun k g hg => HCN.out _ (HKE.out.nm k g hg)
                  have HNO : Hid (∀ g ∈ b.old, g.name.size ≤ 1000) := Lib.hid fun g hg => HCN.out _ (HKE.out.no g hg)
                  have HE1 := Lib.hid (encode_2 HB12.out (HTB.out.ext HB12.out.ex) ps hps2 (by omega) fs hfs2 (by omega) (by omega) HNM.out HNO.out)
                  have HE2 := Lib.hid (fun W (hW : Ext wr W) => encode_2 (HB12.out.ext hW).swap (HTB.out.ext (HB12.out.ext hW).ex) ps hps2 (by omega) fs hfs2 (by omega) (by omega) HNM.out HNO.out)
                  clear hps1 hps2 hfs1 hfs2 hol
                  rcases hcase with ⟨hc1, hc2⟩ | hc1
                  ·
                    go_wp2_with (first
                      | (go_at_call 14; (with_reducible refine HE1.out.mono ?_); rintro e w13 ⟨s1, rfl, hE1, hx13⟩)
                      | (go_at_call 14; (with_reducible refine (HE2.out _ hx13).mono ?_); rintro e w14 ⟨s2, rfl, hE2, hx14⟩; obtain rfl := hE1.same hE2 rfl rfl rfl; have hx14' := hx13.trans hx14))
                    go_ret
                    exact ⟨rfl, HB12.out.ex.trans hx14'⟩
                  ·
                    go_wp2_with (first
                      | (go_at_call 14; (with_reducible refine HE1.out.mono ?_); rintro e w13 ⟨s1, rfl, hE1, hx13⟩)
                      | (go_at_call 14; (with_reducible refine (HE2.out _ hx13).mono ?_); rintro e w14 ⟨s2, rfl, hE2, hx14⟩; obtain rfl := hE1.same hE2 rfl rfl rfl; have hx14' := hx13.trans hx14))
                    go_ret
                    exact ⟨rfl, HB12.out.ex.trans hx14'⟩
end Go.Proofs.YtnplnfkmcfalhaaGreatDoor
