/-
  GradePlays, walked. Conditions: the arguments read as numbers, and the table of powers of ten.
-/
import Derived.Test.YtnplnfkmcfalhaaGreatDoorJpD
namespace Go.Proofs.YtnplnfkmcfalhaaGreatDoor
set_option linter.unusedVariables false
set_option linter.unusedSimpArgs false
open Go.RowKit

theorem OkX.give2 {L : List Int} {C : List Cr} {D : List Dy} {G : List Gd} {N : List Int} {O : List Gd} (h : OkX G N O) {g : Gd} (hg : g.ok) (hC : ∀ c ∈ C, c.name.size ≤ 1000) : OkX (refB L C D G N O g).1 N (refB L C D G N O g).2 := by
  by_cases he : refE L C D N g = 0
  · refine h.give ⟨hg, ?_⟩
    obtain ⟨c, hc⟩ := Option.isSome_iff_exists.1 (refE_0 he).2.1
    have hn : c.name = g.name := by have := List.find?_some hc; simpa using this
    rw [← hn]
    exact hC c (List.mem_of_find?_eq_some hc)
  · rw [refB_ne he]
    exact h
theorem W2.duty {w0 w : World} {pb pr : Nat} {b : Bk} {vl vc vd : Value} {L : List Int} {C : List Cr} {D : List Dy} {G : List Gd} {N : List Int} {O : List Gd} {os : List Nat} (h : W2 w0 w pb b pr vl vc vd L C D G N O os) (hD : D.length ≤ 1000) : SR Dy.cs 2 w vd D ∧ ∃ vg vn vo, w.heap[pr]? = some (.cells #[vl, vc, vd, vg, vn, vo] 80) := by
  obtain ⟨F1, F2, -, ⟨vg, vn, vo, hr, -⟩, -⟩ := h
  exact ⟨SR.of_row (cs := Dy.cs) (fun _ => rfl) hr.rd (by omega), vg, vn, vo, hr.at0⟩

set_option maxRecDepth 100000 in
set_option maxHeartbeats 4000000 in
theorem plays_walk (v0 v1 v2 va : Value) (ls : List Int) (cs ds ac : List (List Int)) (w : World) (ht : TabW w) (h0 : IRd w v0 ls) (h1 : RN 4 w v1 cs) (h2 : RN 2 w v2 ds) (h4 : RN 8 w va ac) :
    Calls Tryz.prog 5 #[.agg #[v0, v1, v2], va] w fun e w' => e = .returned (.bool true) ∧ Ext w w' := by
  obtain ⟨aa, ca, rfl, hal⟩ := h4.form
  have hal' : (ac.length : Int) ≤ 9223372036854775807 := by omega
  have H0 := Lib.hid h0; have H1 := Lib.hid h1; have H2 := Lib.hid h2; have H4 := Lib.hid h4; have HTB := Lib.hid ht
  clear h0 h1 h2 h4 ht
  go_enter Tryz.func5, Tryz.ntmps5
  go_upto_region 2 with (go_at_call 8; (with_reducible refine (sanity_any _).mono ?_); rintro e w1 ⟨rfl, hx1⟩)
  have hcb := keep_heap hx1 (heap_alloc_new w (.cells #[v0, v1, v2] 64))
  have hx1' : Ext w w1 := (Ext.alloc (Ext.refl _) _).trans hx1
  have hM := Make_any ls cs ds v0 v1 v2 w1 (H0.out.ext hx1') (H1.out.ext hx1') (H2.out.ext hx1')
  have hLO := caL_ok H0.out 3
  have hCO := caC_ok H1.out 4
  have hDO := caD_ok H2.out 9
  have hLl : ((ls.take 3).map caL1).length ≤ 3 := by simp; omega
  have hCl : ((cs.take 4).map caC1).length ≤ 4 := by simp; omega
  have hDl : ((ds.take 9).map caD1).length ≤ 9 := by simp; omega
  have HCN : Hid (∀ c ∈ crisW ((cs.take 4).map caC1), c.name.size ≤ 1000) := Lib.hid crisW_name
  obtain ⟨LT, hLT⟩ : ∃ LT, LT = (ls.take 3).map caL1 := ⟨_, rfl⟩
  obtain ⟨CT, hCT⟩ : ∃ CT, CT = (cs.take 4).map caC1 := ⟨_, rfl⟩
  obtain ⟨DT, hDT⟩ : ∃ DT, DT = (ds.take 9).map caD1 := ⟨_, rfl⟩
  rw [← hLT] at hLO hLl hM
  rw [← hCT] at hCO hCl hM HCN
  rw [← hDT] at hDO hDl hM
  clear hLT hCT hDT
  have HM := Lib.hid hM; clear hM
  have HX1 := Lib.hid hx1'
  have HCB := Lib.hid hcb
  clear hcb hx1 hx1'
  go_upto_region 3 with (first
    | (refine wpList_load_row (hgd := rfl) 64 (.tmp 2) rfl w.heap.size (by rfl) 64 _ _ _ HCB.out Tryz.underlying64 rfl (by kernel_rfl) ?_)
    | (go_at_call 16; (with_reducible refine HM.out.mono ?_); rintro e w2 ⟨vl, vc, vd, rfl, hx2, hr1, hr2, hr3⟩; obtain ⟨lb, lc, rfl⟩ := (SR.of_row (cs := Lt.cs) (fun _ => rfl) hr1 (by omega)).form; obtain ⟨cb, cc, rfl⟩ := (SR.of_row (cs := Cr.cs) (fun _ => rfl) hr2 (by omega)).form; obtain ⟨db, dc, rfl⟩ := (SR.of_row (cs := Dy.cs) (fun _ => rfl) hr3 (by omega)).form)
    | (refine wpList_store_row (hgd := rfl) 55 (.tmp 6) (.tmp 19) rfl w2.heap.size (by rfl) (tenC _ _) (by rfl) (tenC nilV nilV) 55 (heap_alloc_new w2 _) (by rfl) (by kernel_rfl) (ten_one _ _ (by rfl) (by rfl)) ?_))
  obtain ⟨W3, hW3⟩ : ∃ W3, W3 = (w2.alloc (.cells (tenC nilV nilV) 55)).setRow w2.heap.size (tenC (.slice lb LT.length lc) (.slice cb CT.length cc)) := ⟨_, rfl⟩
  have hT3 : W3.heap[w2.heap.size]? = some (.cells (tenC (.slice lb LT.length lc) (.slice cb CT.length cc)) 55) := by rw [hW3]; exact setRow_heap _ _ _ _ 55 _ (heap_alloc_new w2 _)
  have hx3 : Ext w2 W3 := by rw [hW3]; exact below_setRow (Ext.alloc (Ext.refl _) _) (Nat.le_refl _) _
  change Code.wp _ _ _ _ ((w2.alloc (.cells (tenC nilV nilV) 55)).setRow w2.heap.size (tenC (.slice lb LT.length lc) (.slice cb CT.length cc)))
  rw [← hW3]
  obtain ⟨pt, hpt⟩ : ∃ pt, pt = w2.heap.size := ⟨_, rfl⟩
  rw [← hpt] at hT3 ⊢
  have HX3 := Lib.hid ((HX1.out.trans hx2).trans hx3)
  have HR1 := Lib.hid (SR.of_row (cs := Lt.cs) (fun _ => rfl) (row_ext hr1 hx3) (by omega))
  have HR2 := Lib.hid (SR.of_row (cs := Cr.cs) (fun _ => rfl) (row_ext hr2 hx3) (by omega))
  have HR3 := Lib.hid (SR.of_row (cs := Dy.cs) (fun _ => rfl) (row_ext hr3 hx3) (by omega))
  have HT3 := Lib.hid hT3; have HLO := Lib.hid hLO; have HCO := Lib.hid hCO; have HDO := Lib.hid hDO
  clear hW3 hT3 hpt hx2 hx3 hr1 hr2 hr3 HX1 HCB HM hLO hCO hDO H0 H1 H2
  refine Rr.wp_region [(0, .y), (1, .y), (3, .y), (4, .y), (2, .z), (5, .z)] (fun _ => (.cells #[] 29, Rg.ptr)) (by kernel_rfl) (by kernel_rfl) ?_
  (refine Rr.wr_y (by simp only [List.getElem?_toArray, List.getElem?_cons_succ, List.getElem?_cons_zero]; rfl) (by rfl) ?_
   apply Exists.intro
   refine ⟨fun wz hw _ => ?_, ?_⟩
   · have hcz := hw.cells.1
     exact up_row (by rfl) ((hw.block _ (Rg.lt_of_heap HT3.out)).trans HT3.out) Tryz.underlying55 (by kernel_rfl)
   simp only [Act.put, List.setIfInBounds_toArray, List.set_cons_zero, List.set_cons_succ])
  (refine Rr.wr_y (by simp only [List.getElem?_toArray, List.getElem?_cons_succ, List.getElem?_cons_zero]; rfl) (by rfl) ?_
   apply Exists.intro
   refine ⟨fun wz hw _ => ?_, ?_⟩
   · have hcz := hw.cells.1
     go_simp
     (with_reducible exact Rg.up_value)
   simp only [Act.put, List.setIfInBounds_toArray, List.set_cons_zero, List.set_cons_succ])
  (refine Rr.wr_y (by simp only [List.getElem?_toArray, List.getElem?_cons_succ, List.getElem?_cons_zero]; rfl) (by rfl) ?_
   apply Exists.intro
   refine ⟨fun wz hw _ => ?_, ?_⟩
   · have hcz := hw.cells.1
     exact up_row (by rfl) ((hw.block _ (Rg.lt_of_heap HT3.out)).trans HT3.out) Tryz.underlying55 (by kernel_rfl)
   simp only [Act.put, List.setIfInBounds_toArray, List.set_cons_zero, List.set_cons_succ])
  (refine Rr.wr_y (by simp only [List.getElem?_toArray, List.getElem?_cons_succ, List.getElem?_cons_zero]; rfl) (by rfl) ?_
   apply Exists.intro
   refine ⟨fun wz hw _ => ?_, ?_⟩
   · have hcz := hw.cells.1
     go_simp
     (with_reducible exact Rg.up_value)
   simp only [Act.put, List.setIfInBounds_toArray, List.set_cons_zero, List.set_cons_succ])
  refine Rr.wr_z (NB W3.heap.size (newB LT CT DT)) (by simp only [List.getElem?_toArray, List.getElem?_cons_succ, List.getElem?_cons_zero]; rfl) (by rfl) (fun v w1 w2 h e => by first | exact Rd.ext e h | exact h.ext e) (fun wz hw hh => ?_) (fun u => ?_)
  · have hcz := hw.cells.1
    go_simp
    apply Rr.upR_enter
    (with_reducible refine (New_z W3.heap.size LT CT DT _ _ _ wz hw.size (HR1.out.ext hw) (HR2.out.ext hw) (HR3.out.ext hw) HLO.out HCO.out HDO.out (by omega)).mono ?_)
    rintro e w3 ⟨v3, rfl, hx3, hr3⟩
    exact ⟨v3, rfl, hx3, hr3⟩
  simp only [Act.put, List.setIfInBounds_toArray, List.set_cons_zero, List.set_cons_succ]
  refine Rr.wr_z (NR2 W3.heap.size (newB LT CT DT) u (lotsW LT) (crisW CT) (dutsW DT)) (by simp only [List.getElem?_toArray, List.getElem?_cons_succ, List.getElem?_cons_zero]; rfl) (by rfl) (fun v w1 w2 h e => by first | exact Rd.ext e h | exact h.ext e) (fun wz hw hh => ?_) (fun u => ?_)
  · have hcz := hw.cells.1
    go_simp
    apply Rr.upR_enter
    (with_reducible refine (refNew_z2 W3.heap.size _ _ LT CT DT _ _ _ wz (holds_head hh) hw.size (HR1.out.ext hw) (HR2.out.ext hw) (HR3.out.ext hw) HLO.out (by omega) (by omega) (by omega)).mono ?_)
    rintro e w3 ⟨v3, rfl, hx3, hr3⟩
    exact ⟨v3, rfl, hx3, hr3⟩
  simp only [Act.put, List.setIfInBounds_toArray, List.set_cons_zero, List.set_cons_succ]
  refine Rr.wr_nil ?_
  intro W6 hx6 hh
  obtain ⟨pb, F1, pr, F2, vl, vc, vd, hp1, hp2, hb1, hb2, hF1, hF2⟩ := hh _ List.mem_cons_self
  subst hp1 hp2
  simp only [List.length_cons, List.length_nil, List.drop_succ_cons, List.drop_zero, Nat.reduceAdd]
  have HX6 := Lib.hid (HX3.out.trans hx6)
  have HW6 : Hid (W2 w W6 pb (newB LT CT DT) pr vl vc vd (lotsW LT) (crisW CT) (dutsW DT) [] [] [] []) := Lib.hid ⟨F1, F2, hb1, hb2, fun k hk => ⟨Nat.le_trans HX3.out.size (hF1 k hk).1, (hF1 k hk).2⟩, fun k hk => Nat.le_trans HX3.out.size (hF2 k hk), fun k hk => (by cases hk), HX6.out⟩
  have HR4 := Lib.hid (HR3.out.ext hx6)
  have HSX := Lib.hid (SimX.start LT CT DT)
  clear hh hb1 hb2 hF1 hF2 hx6 HR1 HR2 HR3 HT3 HX3
  go_upto_region 4 with (fail)
  obtain ⟨hLo, hLl2⟩ := lotsW_ok HLO.out
  obtain ⟨hCo, hCl2⟩ := crisW_ok HCO.out
  obtain ⟨hDo, hDl2⟩ := dutsW_ok HDO.out
  have hL3 : (lotsW LT).length ≤ 3 := by omega
  have hC4 : (crisW CT).length ≤ 4 := by omega
  have hD9 : (dutsW DT).length ≤ 9 := by omega
  have HLo := Lib.hid hLo; have HDo := Lib.hid hDo
  clear hLo hCo hDo hLl2 hCl2 hDl2 HLO HCO HDO HR4 hLl hCl hDl
  generalize lotsW LT = L at *
  generalize crisW CT = C at *
  generalize dutsW DT = D at *
  generalize newB LT CT DT = b0 at *
  obtain ⟨db2, dc2, rfl⟩ := (HW6.out.duty (by omega)).1.form
  go_upto_region 5 with (fail)
  go_loopw [10] (fun k wr => ∃ (i : Nat) (b : Bk) (G : List Gd) (N : List Int) (O : List Gd), k = .int .i64 i ∧ i ≤ ac.length ∧ i ≤ 60 ∧ W2 w wr pb b pr vl vc (.slice db2 D.length dc2) L C D G N O [] ∧ Hid (SimX b L C D G N O ∧ OkX G N O ∧ G.length ≤ i ∧ O.length ≤ i ∧ N.length ≤ 9 * i)) (fun k _ => 60 - (iof k).toNat)
  case atStart => exact ⟨0, b0, [], [], [], rfl, Nat.zero_le _, by omega, HW6.out, Lib.hid ⟨HSX.out, OkX.nil, Nat.le_refl _, Nat.le_refl _, Nat.le_refl _⟩⟩
  case round =>
    obtain ⟨i, b, G, N, O, rfl, hi, hi6, hw2, HI⟩ := hrel
    by_cases hil : i < ac.length ∧ i < 60
    · obtain ⟨hil, hi60⟩ := hil
      have hxw := hw2.ex
      obtain ⟨qb, qo, rfl, hcell, hok⟩ := (H4.out.ext hxw).at i hil
      have q0 := hcell 0 (by decide)
      have q1 := hcell 1 (by decide)
      have q2 := hcell 2 (by decide)
      have q3 := hcell 3 (by decide)
      have q4 := hcell 4 (by decide)
      have q5 := hcell 5 (by decide)
      have q6 := hcell 6 (by decide)
      have q7 := hcell 7 (by decide)
      have hbl := World.block_lt_of_cell? wr _ q3
      have HO3 := Lib.hid (hok 3)
      have HO0 := Lib.hid (hok 0)
      have HGR := Lib.hid (fun W (hW : Ext wr W) => Grade_any 0 pr L C D (ac[i].getD 0 0) (ac[i].getD 1 0) (ac[i].getD 2 0) (ac[i].getD 3 0) (ac[i].getD 4 0) (ac[i].getD 5 0) (ac[i].getD 6 0) (ac[i].getD 7 0) W (hw2.rb.ext hW) hL3 hC4 hD9 HLo.out HDo.out (hok 1) (hok 2) (hok 3) (hok 4) (hok 5) (hok 6) (hok 7))
      clear hcell hok hxw
      generalize ac[i].getD 0 0 = a0 at *
      generalize ac[i].getD 1 0 = a1 at *
      generalize ac[i].getD 2 0 = a2 at *
      generalize ac[i].getD 3 0 = a3 at *
      generalize ac[i].getD 4 0 = a4 at *
      generalize ac[i].getD 5 0 = a5 at *
      generalize ac[i].getD 6 0 = a6 at *
      generalize ac[i].getD 7 0 = a7 at *
      simp only [Nat.add_zero] at q0
      have hii : (i : Int) < ac.length := by omega
      have HMD := Lib.hid (fun wz => Mod_any a0 8 (by omega) (by omega) HO0.out wz)
      have hi6z : (i : Int) < 60 := by omega
      go_upto_region 8 with (fail)
      have hxa : Ext wr (wr.alloc (.cells #[.int .i64 a0, .int .i64 a1, .int .i64 a2, .int .i64 a3, .int .i64 a4, .int .i64 a5, .int .i64 a6, .int .i64 a7] 76)) := Ext.alloc (Ext.refl _) _
      have hq := heap_alloc_new wr (.cells #[.int .i64 a0, .int .i64 a1, .int .i64 a2, .int .i64 a3, .int .i64 a4, .int .i64 a5, .int .i64 a6, .int .i64 a7] 76)
      have hw6 := hw2.more hxa (Nat.le_refl _) (Rg.lt_of_heap hq)
      have HGR6 := Lib.hid (fun W (hW : Ext (wr.alloc (.cells #[.int .i64 a0, .int .i64 a1, .int .i64 a2, .int .i64 a3, .int .i64 a4, .int .i64 a5, .int .i64 a6, .int .i64 a7] 76)) W) => HGR.out W (hxa.trans hW))
      obtain ⟨qa, hqa⟩ : ∃ qa, qa = wr.heap.size := ⟨_, rfl⟩
      rw [← hqa] at hq hw6 ⊢
      clear q0 q1 q2 q3 q4 q5 q6 q7 hbl hxa hqa hw2 HGR
      generalize wr.alloc (.cells #[.int .i64 a0, .int .i64 a1, .int .i64 a2, .int .i64 a3, .int .i64 a4, .int .i64 a5, .int .i64 a6, .int .i64 a7] 76) = w6 at *
      have HQ := Lib.hid hq; have HW := Lib.hid hw6
      have q0 := cell_of_row w6 qa 0 _ _ _ hq
      have ql := Rg.lt_of_heap hq
      clear hq hw6
      have hG0 : G.length ≤ 60 := by have := HI.out.2.2.1; omega
      have hO0 : O.length ≤ 60 := by have := HI.out.2.2.2.1; omega
      have hN0 : N.length ≤ 540 := by have := HI.out.2.2.2.2; omega
      have hob : b.old.length < 100000 := by rw [HI.out.1.old]; omega
      generalize modZ a0 8 = m0 at *
      by_cases hm6 : m0 = 6
      · subst hm6
        have HSF := Lib.hid (HI.out.1.final a3)
        have HOF := Lib.hid (HI.out.2.1.final (L := L) (C := C) (D := D) HO3.out)
        have hNF := refN_len (L := L) (C := C) (D := D) (G := G) (N := N) a3
        go_upto_region 13 with (go_at_call 18; (with_reducible refine (HMD.out _).mono ?_); rintro e w9 ⟨rfl, hx9⟩)
        have HW9 := Lib.hid (HW.out.ext hx9)
        have hq9 := keep_heap hx9 HQ.out
        have q3 := cell_of_row w9 qa 3 _ _ _ hq9
        have HQ9 := Lib.hid hq9
        have HF1 : Hid (∀ W, Ext w9 W → Calls Tryz.prog 11 #[.pointer (some ⟨pb, 0, none⟩), .int .i64 a3] W fun e w' => e = .returned (.int .i64 (refF L C D G N a3)) ∧ W2 w w' pb (finB b a3) pr vl vc (.slice db2 D.length dc2) L C D G N O [qa] ∧ w'.cell? ⟨qa, 3, none⟩ = some (.int .i64 a3)) := Lib.hid fun W hW =>
          (final_b (bid := a3) (HW9.out.ext hW) HO3.out).mono fun _ _ ⟨he, hb, hk⟩ => ⟨by rw [HSF.out.1] at he; exact he, hb, cell_of_row _ qa 3 _ _ _ ((hk qa List.mem_cons_self).trans (keep_heap hW HQ9.out))⟩
        have HF2 : Hid (∀ W0 W, W2 w W0 pb (finB b a3) pr vl vc (.slice db2 D.length dc2) L C D G N O [qa] → W0.cell? ⟨qa, 3, none⟩ = some (.int .i64 a3) → Ext W0 W → Calls Tryz.prog 20 #[.pointer (some ⟨pr, 0, none⟩), .int .i64 a3] W fun e w' => e = .returned (.int .i64 (refF L C D G N a3)) ∧ W2 w w' pb (finB b a3) pr vl vc (.slice db2 D.length dc2) L C D G (refN L C D G N a3) O [qa] ∧ w'.cell? ⟨qa, 3, none⟩ = some (.int .i64 a3)) := Lib.hid fun W0 W h1 h2 hW =>
          (final_r (bid := a3) (h1.ext hW) (by omega) (by omega) (by omega) (by omega) (by omega) HLo.out HI.out.2.1.n).mono fun _ w' ⟨he, hb, hk⟩ => ⟨he, hb, by
            have h3 := (hW.cells.1 _ _ (World.block_lt_of_cell? W0 _ h2)).trans h2
            rw [← h3]
            exact World.cell?_of_block (hk qa List.mem_cons_self)⟩
        have HSF2 := Lib.hid HSF.out.2
        clear HSF HW hq9 q0 ql HQ HQ9
        generalize finB b a3 = bf at *
        generalize refN L C D G N a3 = N2 at *
        generalize refF L C D G N a3 = fe at *
        go_region_held3 (fun w' => w'.cell? ⟨qa, 3, none⟩ = some (.int .i64 a3)) (first | exact m3' | exact k3' | exact q3 | go_keep)
          (first
            | (go_at_call_of 11 (Value.pointer (some ⟨pb, 0, none⟩)); refine (HF1.out _ ?_).mono ?_; (exact (by with_reducible repeat (first | exact Ext.refl _ | assumption | apply Ext.drewN | apply Ext.drew | apply Ext.alloc | (refine Ext.setCell ?_ (by simp <;> omega) _) | (refine Ext.trans ?_ (by assumption))))); rintro e wB ⟨rfl, hbB, k3'⟩)
            | (go_at_call_of 20 (Value.pointer (some ⟨pr, 0, none⟩)); refine (HF2.out _ _ hbB k3' ?_).mono ?_; (exact (by with_reducible repeat (first | exact Ext.refl _ | assumption | apply Ext.drewN | apply Ext.drew | apply Ext.alloc | (refine Ext.setCell ?_ (by simp <;> omega) _) | (refine Ext.trans ?_ (by assumption))))); rintro e wC ⟨rfl, hbC, m3'⟩))
        have HWC := Lib.hid (hbC.few (os' := []) (fun k hk => by cases hk))
        have HNI : Hid (SimX bf L C D G N2 O ∧ OkX G N2 O ∧ G.length ≤ i + 1 ∧ O.length ≤ i + 1 ∧ N2.length ≤ 9 * (i + 1)) := Lib.hid ⟨HSF2.out, HOF.out, by have := HI.out.2.2.1; omega, by have := HI.out.2.2.2.1; omega, by have := HI.out.2.2.2.2; omega⟩
        clear hbC hbB k3' m3' q3
        go_wp2_with (fail)
        exact ⟨⟨i + 1, bf, G, N2, O, by simp, by omega, by omega, HWC.out, HNI⟩, by simp [iof]; omega⟩
      · by_cases hm7 : m0 = 7
        · subst hm7
          go_upto_region 16 with (go_at_call 18; (with_reducible refine (HMD.out _).mono ?_); rintro e w9 ⟨rfl, hx9⟩)
          have HW9 := Lib.hid ((HW.out.ext hx9).few (os' := []) (fun k hk => by cases hk))
          clear q0 ql HQ HW hx9 hm6
          obtain ⟨-, vg, vn, vo, hat⟩ := HW9.out.duty (by omega)
          obtain ⟨-, -, u2, -, -, -, ul, -⟩ := rcells hat
          clear hat
          go_upto_region 17 with (fail)
          clear u2 ul
          obtain ⟨V, hV⟩ : ∃ V, V = w9 := ⟨_, rfl⟩
          rw [← hV] at HW9 ⊢
          clear hV
          go_loopw [72] (fun k wz => ∃ (j : Nat) (b2 : Bk) (N2 : List Int), k = .int .i64 j ∧ j ≤ D.length ∧ W2 w wz pb b2 pr vl vc (.slice db2 D.length dc2) L C D G N2 O [] ∧ Hid (SimX b2 L C D G N2 O ∧ OkX G N2 O ∧ N2.length ≤ 9 * i + j)) (fun k _ => D.length - (iof k).toNat)
          case atStart => exact ⟨0, b, N, rfl, Nat.zero_le _, HW9.out, Lib.hid ⟨HI.out.1, HI.out.2.1, HI.out.2.2.2.2⟩⟩
          case round =>
            rename World => wz
            obtain ⟨j, b2, N2, rfl, hj, hwz, HJ⟩ := hrel
            by_cases hjl : j < D.length
            · obtain ⟨qd, rfl, hcell⟩ := row_at (hwz.duty (by omega)).1 j hjl
              have d0 := hcell 0 _ rfl
              have d1 := hcell 1 _ rfl
              have dl := World.block_lt_of_cell? wz _ d0
              have HDB := Lib.hid (HDo.out _ (List.getElem_mem hjl)).2
              clear hcell
              generalize D[j] = d at *
              obtain ⟨da, db3⟩ := d
              simp only [Nat.add_zero] at d0 d1 HDB
              have hN2 : N2.length ≤ 540 := by have := HJ.out.2.2; omega
              have HSF := Lib.hid (HJ.out.1.final db3)
              have HOF := Lib.hid (HJ.out.2.1.final (L := L) (C := C) (D := D) HDB.out)
              have hNF := refN_len (L := L) (C := C) (D := D) (G := G) (N := N2) db3
              go_upto_region 19 with (fail)
              have hxa : Ext wz (wz.alloc (.cells #[.int .i64 da, .int .i64 db3] 57)) := Ext.alloc (Ext.refl _) _
              have hq := heap_alloc_new wz (.cells #[.int .i64 da, .int .i64 db3] 57)
              have hw7 := hwz.more hxa (Nat.le_refl _) (Rg.lt_of_heap hq)
              obtain ⟨qe, hqe⟩ : ∃ qe, qe = wz.heap.size := ⟨_, rfl⟩
              rw [← hqe] at hq hw7 ⊢
              clear d0 d1 dl hxa hqe hwz
              generalize wz.alloc (.cells #[.int .i64 da, .int .i64 db3] 57) = w7 at *
              have q3 := cell_of_row w7 qe 1 _ _ _ hq
              have HQ9 := Lib.hid hq; have HW7 := Lib.hid hw7
              clear hq hw7
              have HF1 : Hid (∀ W, Ext w7 W → Calls Tryz.prog 11 #[.pointer (some ⟨pb, 0, none⟩), .int .i64 db3] W fun e w' => e = .returned (.int .i64 (refF L C D G N2 db3)) ∧ W2 w w' pb (finB b2 db3) pr vl vc (.slice (some ⟨qd, 0, none⟩) D.length dc2) L C D G N2 O [qe] ∧ w'.cell? ⟨qe, 1, none⟩ = some (.int .i64 db3)) := Lib.hid fun W hW =>
                (final_b (bid := db3) (HW7.out.ext hW) HDB.out).mono fun _ _ ⟨he, hb, hk⟩ => ⟨by rw [HSF.out.1] at he; exact he, hb, cell_of_row _ qe 1 _ _ _ ((hk qe List.mem_cons_self).trans (keep_heap hW HQ9.out))⟩
              have HF2 : Hid (∀ W0 W, W2 w W0 pb (finB b2 db3) pr vl vc (.slice (some ⟨qd, 0, none⟩) D.length dc2) L C D G N2 O [qe] → W0.cell? ⟨qe, 1, none⟩ = some (.int .i64 db3) → Ext W0 W → Calls Tryz.prog 20 #[.pointer (some ⟨pr, 0, none⟩), .int .i64 db3] W fun e w' => e = .returned (.int .i64 (refF L C D G N2 db3)) ∧ W2 w w' pb (finB b2 db3) pr vl vc (.slice (some ⟨qd, 0, none⟩) D.length dc2) L C D G (refN L C D G N2 db3) O [qe] ∧ w'.cell? ⟨qe, 1, none⟩ = some (.int .i64 db3)) := Lib.hid fun W0 W h1 h2 hW =>
                (final_r (bid := db3) (h1.ext hW) (by omega) (by omega) (by omega) (by omega) (by omega) HLo.out HJ.out.2.1.n).mono fun _ w' ⟨he, hb, hk⟩ => ⟨he, hb, by
                  have h3 := (hW.cells.1 _ _ (World.block_lt_of_cell? W0 _ h2)).trans h2
                  rw [← h3]
                  exact World.cell?_of_block (hk qe List.mem_cons_self)⟩
              have HSF2 := Lib.hid HSF.out.2
              clear HSF HQ9 HW7
              generalize finB b2 db3 = bf at *
              generalize refN L C D G N2 db3 = N3 at *
              generalize refF L C D G N2 db3 = fe at *
              go_region_held3 (fun w' => w'.cell? ⟨qe, 1, none⟩ = some (.int .i64 db3)) (first | exact m3' | exact k3' | exact q3 | go_keep)
                (first
                  | (go_at_call_of 11 (Value.pointer (some ⟨pb, 0, none⟩)); refine (HF1.out _ ?_).mono ?_; (exact (by with_reducible repeat (first | exact Ext.refl _ | assumption | apply Ext.drewN | apply Ext.drew | apply Ext.alloc | (refine Ext.setCell ?_ (by simp <;> omega) _) | (refine Ext.trans ?_ (by assumption))))); rintro e wB ⟨rfl, hbB, k3'⟩)
                  | (go_at_call_of 20 (Value.pointer (some ⟨pr, 0, none⟩)); refine (HF2.out _ _ hbB k3' ?_).mono ?_; (exact (by with_reducible repeat (first | exact Ext.refl _ | assumption | apply Ext.drewN | apply Ext.drew | apply Ext.alloc | (refine Ext.setCell ?_ (by simp <;> omega) _) | (refine Ext.trans ?_ (by assumption))))); rintro e wC ⟨rfl, hbC, m3'⟩))
              have HWC := Lib.hid (hbC.few (os' := []) (fun k hk => by cases hk))
              have HNI : Hid (SimX bf L C D G N3 O ∧ OkX G N3 O ∧ N3.length ≤ 9 * i + (j + 1)) := Lib.hid ⟨HSF2.out, HOF.out, by have := HJ.out.2.2; omega⟩
              clear hbC hbB k3' m3' q3
              go_wp2_with (fail)
              exact ⟨⟨j + 1, bf, N3, by simp, by omega, HWC.out, HNI⟩, by simp [iof]; omega⟩
            · obtain rfl : j = D.length := by omega
              have HWZ := Lib.hid hwz
              have HNI : Hid (SimX b2 L C D G N2 O ∧ OkX G N2 O ∧ G.length ≤ i + 1 ∧ O.length ≤ i + 1 ∧ N2.length ≤ 9 * (i + 1)) := Lib.hid ⟨HJ.out.1, HJ.out.2.1, by have := HI.out.2.2.1; omega, by have := HI.out.2.2.2.1; omega, by have := HJ.out.2.2; omega⟩
              clear hwz
              go_wp2_with (fail)
              exact ⟨⟨i + 1, b2, G, N2, O, by simp, by omega, by omega, HWZ.out, HNI⟩, by simp [iof]; omega⟩
        · go_upto_region 9 with (go_at_call 18; (with_reducible refine (HMD.out _).mono ?_); rintro e w9 ⟨rfl, hx9⟩)
          have HW9 := Lib.hid (HW.out.ext hx9); have HX9 := Lib.hid hx9
          have hq9 := keep_heap hx9 HQ.out
          clear q0 ql HW
          obtain ⟨hc9, -, hl9⟩ := Rg.cells_of hq9
          have q0 := hc9 0; have q1 := hc9 1; have q2 := hc9 2; have q3 := hc9 3; have q4 := hc9 4; have q5 := hc9 5; have q6 := hc9 6; have q7 := hc9 7
          clear hc9 hq9 hx9
          go_upto_region 10 with (go_at_call 19; (with_reducible refine (HGR6.out _ HX9.out).mono ?_); rintro e w8 ⟨g, rfl, hgo, hx8⟩; obtain ⟨ga, gb, gl, gn, gN, gt⟩ := g; simp only [Gd.v])
          have hxa : Ext w8 (w8.alloc (.cells #[.int .i64 ga, .int .i64 gb, .int .i64 gl, .string gn, .int .i64 gN, .int .i64 gt] 23)) := Ext.alloc (Ext.refl _) _
          have hq := heap_alloc_new w8 (.cells #[.int .i64 ga, .int .i64 gb, .int .i64 gl, .string gn, .int .i64 gN, .int .i64 gt] 23)
          have hwA := ((HW9.out.ext hx8).few (os' := []) (fun k hk => by cases hk)).more hxa (Nat.le_refl _) (Rg.lt_of_heap hq)
          obtain ⟨qv, hqv⟩ : ∃ qv, qv = w8.heap.size := ⟨_, rfl⟩
          rw [← hqv] at hq hwA ⊢
          clear q0 q1 q2 q3 q4 q5 q6 q7 hl9 hxa hqv hx8 HW9 HX9 HGR6 HQ
          generalize w8.alloc (.cells #[.int .i64 ga, .int .i64 gb, .int .i64 gl, .string gn, .int .i64 gN, .int .i64 gt] 23) = wA at *
          have HQ := Lib.hid hq; have HWA := Lib.hid hwA
          have HSG := Lib.hid (HI.out.1.give ⟨ga, gb, gl, gn, gN, gt⟩)
          have HOG := Lib.hid (HI.out.2.1.give2 (L := L) (D := D) hgo HCN.out)
          have HLG := Lib.hid (refB_len (L := L) (C := C) (D := D) (G := G) (N := N) (O := O) ⟨ga, gb, gl, gn, gN, gt⟩)
          have HG1 : Hid (∀ W, Ext wA W → Calls Tryz.prog 10 #[.pointer (some ⟨pb, 0, none⟩), .agg #[.int .i64 ga, .int .i64 gb, .int .i64 gl, .string gn, .int .i64 gN, .int .i64 gt]] W fun e w' => e = .returned (.int .i64 (refE L C D N ⟨ga, gb, gl, gn, gN, gt⟩)) ∧ W2 w w' pb (giveR b ⟨ga, gb, gl, gn, gN, gt⟩).2 pr vl vc (.slice db2 D.length dc2) L C D G N O [qv] ∧ w'.heap[qv]? = some (.cells #[.int .i64 ga, .int .i64 gb, .int .i64 gl, .string gn, .int .i64 gN, .int .i64 gt] 23)) := Lib.hid fun W hW =>
            (give_b (g := ⟨ga, gb, gl, gn, gN, gt⟩) (HWA.out.ext hW) hgo hob).mono fun _ _ ⟨he, hb, hk⟩ => ⟨by rw [HSG.out.1] at he; exact he, hb, (hk qv List.mem_cons_self).trans (keep_heap hW HQ.out)⟩
          have HG2 : Hid (∀ W0 W, W2 w W0 pb (giveR b ⟨ga, gb, gl, gn, gN, gt⟩).2 pr vl vc (.slice db2 D.length dc2) L C D G N O [qv] → W0.heap[qv]? = some (.cells #[.int .i64 ga, .int .i64 gb, .int .i64 gl, .string gn, .int .i64 gN, .int .i64 gt] 23) → Ext W0 W → Calls Tryz.prog 21 #[.pointer (some ⟨pr, 0, none⟩), .agg #[.int .i64 ga, .int .i64 gb, .int .i64 gl, .string gn, .int .i64 gN, .int .i64 gt]] W fun e w' => e = .returned (.int .i64 (refE L C D N ⟨ga, gb, gl, gn, gN, gt⟩)) ∧ W2 w w' pb (giveR b ⟨ga, gb, gl, gn, gN, gt⟩).2 pr vl vc (.slice db2 D.length dc2) L C D (refB L C D G N O ⟨ga, gb, gl, gn, gN, gt⟩).1 N (refB L C D G N O ⟨ga, gb, gl, gn, gN, gt⟩).2 [qv] ∧ w'.heap[qv]? = some (.cells #[.int .i64 ga, .int .i64 gb, .int .i64 gl, .string gn, .int .i64 gN, .int .i64 gt] 23)) := Lib.hid fun W0 W h1 h2 hW =>
            (give_r (g := ⟨ga, gb, gl, gn, gN, gt⟩) (h1.ext hW) hgo (by omega) (by omega) (by omega) (by omega) (by omega) (by omega) HLo.out HI.out.2.1.n).mono fun _ _ ⟨he, hb, hk⟩ => ⟨he, hb, (hk qv List.mem_cons_self).trans (keep_heap hW h2)⟩
          have HSG2 := Lib.hid HSG.out.2
          clear HSG hgo hwA HWA
          generalize (giveR b ⟨ga, gb, gl, gn, gN, gt⟩).2 = b' at *
          generalize refB L C D G N O ⟨ga, gb, gl, gn, gN, gt⟩ = rb at *
          generalize refE L C D N ⟨ga, gb, gl, gn, gN, gt⟩ = ge at *
          have c0' : wA.cell? ⟨qv, 0, none⟩ = some (.int .i64 ga) := cell_of_row wA qv 0 _ _ _ hq
          have c1' : wA.cell? ⟨qv, 1, none⟩ = some (.int .i64 gb) := cell_of_row wA qv 1 _ _ _ hq
          have c2' : wA.cell? ⟨qv, 2, none⟩ = some (.int .i64 gl) := cell_of_row wA qv 2 _ _ _ hq
          have c3' : wA.cell? ⟨qv, 3, none⟩ = some (.string gn) := cell_of_row wA qv 3 _ _ _ hq
          have c4' : wA.cell? ⟨qv, 4, none⟩ = some (.int .i64 gN) := cell_of_row wA qv 4 _ _ _ hq
          have c5' : wA.cell? ⟨qv, 5, none⟩ = some (.int .i64 gt) := cell_of_row wA qv 5 _ _ _ hq
          clear hq HQ
          go_region_held3 (fun w' => w'.cell? ⟨qv, 0, none⟩ = some (.int .i64 ga) ∧ w'.cell? ⟨qv, 1, none⟩ = some (.int .i64 gb) ∧ w'.cell? ⟨qv, 2, none⟩ = some (.int .i64 gl) ∧ w'.cell? ⟨qv, 3, none⟩ = some (.string gn) ∧ w'.cell? ⟨qv, 4, none⟩ = some (.int .i64 gN) ∧ w'.cell? ⟨qv, 5, none⟩ = some (.int .i64 gt)) (first | exact ⟨m0', m1', m2', m3', m4', m5'⟩ | exact ⟨k0', k1', k2', k3', k4', k5'⟩ | exact ⟨c0', c1', c2', c3', c4', c5'⟩ | go_keep)
            (first
              | (go_at_call_of 10 (Value.pointer (some ⟨pb, 0, none⟩)); refine (HG1.out _ ?_).mono ?_; (exact (by with_reducible repeat (first | exact Ext.refl _ | assumption | apply Ext.drewN | apply Ext.drew | apply Ext.alloc | (refine Ext.setCell ?_ (by simp <;> omega) _) | (refine Ext.trans ?_ (by assumption))))); rintro e wB ⟨rfl, hbB, hqB⟩; have k0' : wB.cell? ⟨qv, 0, none⟩ = some (.int .i64 ga) := cell_of_row wB qv 0 _ _ _ hqB; have k1' : wB.cell? ⟨qv, 1, none⟩ = some (.int .i64 gb) := cell_of_row wB qv 1 _ _ _ hqB; have k2' : wB.cell? ⟨qv, 2, none⟩ = some (.int .i64 gl) := cell_of_row wB qv 2 _ _ _ hqB; have k3' : wB.cell? ⟨qv, 3, none⟩ = some (.string gn) := cell_of_row wB qv 3 _ _ _ hqB; have k4' : wB.cell? ⟨qv, 4, none⟩ = some (.int .i64 gN) := cell_of_row wB qv 4 _ _ _ hqB; have k5' : wB.cell? ⟨qv, 5, none⟩ = some (.int .i64 gt) := cell_of_row wB qv 5 _ _ _ hqB)
              | (go_at_call_of 21 (Value.pointer (some ⟨pr, 0, none⟩)); refine (HG2.out _ _ hbB hqB ?_).mono ?_; (exact (by with_reducible repeat (first | exact Ext.refl _ | assumption | apply Ext.drewN | apply Ext.drew | apply Ext.alloc | (refine Ext.setCell ?_ (by simp <;> omega) _) | (refine Ext.trans ?_ (by assumption))))); rintro e wC ⟨rfl, hbC, hqC⟩; have m0' : wC.cell? ⟨qv, 0, none⟩ = some (.int .i64 ga) := cell_of_row wC qv 0 _ _ _ hqC; have m1' : wC.cell? ⟨qv, 1, none⟩ = some (.int .i64 gb) := cell_of_row wC qv 1 _ _ _ hqC; have m2' : wC.cell? ⟨qv, 2, none⟩ = some (.int .i64 gl) := cell_of_row wC qv 2 _ _ _ hqC; have m3' : wC.cell? ⟨qv, 3, none⟩ = some (.string gn) := cell_of_row wC qv 3 _ _ _ hqC; have m4' : wC.cell? ⟨qv, 4, none⟩ = some (.int .i64 gN) := cell_of_row wC qv 4 _ _ _ hqC; have m5' : wC.cell? ⟨qv, 5, none⟩ = some (.int .i64 gt) := cell_of_row wC qv 5 _ _ _ hqC))
          have HWC := Lib.hid (hbC.few (os' := []) (fun k hk => by cases hk))
          have HNI : Hid (SimX b' L C D rb.1 N rb.2 ∧ OkX rb.1 N rb.2 ∧ rb.1.length ≤ i + 1 ∧ rb.2.length ≤ i + 1 ∧ N.length ≤ 9 * (i + 1)) := Lib.hid ⟨HSG2.out, HOG.out, by have := HLG.out.1; have := HI.out.2.2.1; omega, by have := HLG.out.2; have := HI.out.2.2.2.1; omega, by have := HI.out.2.2.2.2; omega⟩
          clear hbB hqB hbC hqC k0' k1' k2' k3' k4' k5' m0' m1' m2' m3' m4' m5' c0' c1' c2' c3' c4' c5' HG1 HG2
          go_wp2_with (fail)
          exact ⟨⟨i + 1, b', rb.1, N, rb.2, by simp, by omega, by omega, HWC.out, HNI⟩, by simp [iof]; omega⟩
    · have hG1 : G.length ≤ 60 := by have := HI.out.2.2.1; omega
      have hO1 : O.length ≤ 60 := by have := HI.out.2.2.2.1; omega
      have hN1 : N.length ≤ 540 := by have := HI.out.2.2.2.2; omega
      have HSB := Lib.hid (same_b hw2 HTB.out HI.out.1 HI.out.2.1 HLo.out (fun d hd => (HDo.out d hd).2) (by omega) (by omega) (by omega) (by omega) (by omega) (by omega))
      clear hw2
      by_cases hac : i < ac.length
      · have h60 : ¬ (i : Int) < 60 := by omega
        have hacz : (i : Int) < ac.length := by omega
        go_wp2_with (go_at_call 22; (with_reducible refine HSB.out.mono ?_); rintro e wA ⟨rfl, hxA⟩)
        go_ret
        exact ⟨rfl, hxA⟩
      · have hacz : ¬ (i : Int) < ac.length := by omega
        go_wp2_with (go_at_call 22; (with_reducible refine HSB.out.mono ?_); rintro e wA ⟨rfl, hxA⟩)
        go_ret
        exact ⟨rfl, hxA⟩
end Go.Proofs.YtnplnfkmcfalhaaGreatDoor
