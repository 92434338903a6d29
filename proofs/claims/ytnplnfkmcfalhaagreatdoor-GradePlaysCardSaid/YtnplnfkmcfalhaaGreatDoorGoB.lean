/-
  GradeOrder, walked. Conditions: the arguments read as numbers, and the table of powers of ten.
-/
import Derived.Test.YtnplnfkmcfalhaaGreatDoorGoC
namespace Go.Proofs.YtnplnfkmcfalhaaGreatDoor
set_option linter.unusedVariables false
set_option linter.unusedSimpArgs false
open Go.RowKit

/-- A new book, as a value. -/
def NB (n0 : Nat) (b : Bk) (v : Value) (W : World) : Prop := ∃ p F, v = .pointer (some ⟨p, 0, none⟩) ∧ BR W p b F ∧ ∀ k ∈ F, n0 ≤ k
theorem NB.ext {n0 : Nat} {b : Bk} {v : Value} {w w' : World} (h : NB n0 b v w) (e : Ext w w') : NB n0 b v w' := by
  obtain ⟨p, F, h1, h2, h3⟩ := h
  exact ⟨p, F, h1, h2.ext e, h3⟩
def RBv (B : Nat) (L : List Int) (C : List Cr) (D : List Dy) (v : Value) (W : World) : Prop := ∃ p, v = .pointer (some ⟨p, 0, none⟩) ∧ RB B W p L C D
theorem RBv.ext {B : Nat} {L : List Int} {C : List Cr} {D : List Dy} {v : Value} {w w' : World} (h : RBv B L C D v w) (e : Ext w w') : RBv B L C D v w' := by
  obtain ⟨p, h1, h2⟩ := h
  exact ⟨p, h1, h2.ext e⟩
theorem RN.ok {n : Nat} {w : World} {v : Value} {ls : List (List Int)} (h : RN n w v ls) : ∀ z ∈ ls, ∀ j, OkI (z.getD j 0) := by
  obtain ⟨A, cap, -, -, h3, -⟩ := h
  intro z hz j
  rw [List.getD_eq_getElem?_getD]
  rcases Nat.lt_or_ge j z.length with hj | hj
  · rw [List.getElem?_eq_getElem hj]
    exact (h3 z hz).2 _ (List.getElem_mem _)
  · rw [List.getElem?_eq_none hj]
    exact okI_small (by decide)
theorem caL_ok {w : World} {v : Value} {ls : List Int} (h : IRd w v ls) (n : Nat) : ∀ l ∈ (ls.take n).map caL1, OkI l.id := by
  obtain ⟨A, cap, -, -, h3, -⟩ := h
  intro l hl
  obtain ⟨z, hz, rfl⟩ := List.mem_map.1 hl
  exact h3 z (List.mem_of_mem_take hz)
theorem caC_ok {w : World} {v : Value} {ls : List (List Int)} {k : Nat} (h : RN k w v ls) (n : Nat) : ∀ c ∈ (ls.take n).map caC1, c.ok := by
  intro c hc
  obtain ⟨z, hz, rfl⟩ := List.mem_map.1 hc
  have := h.ok z (List.mem_of_mem_take hz)
  exact ⟨nameB_ok _, this 1, this 2, this 3⟩
theorem caD_ok {w : World} {v : Value} {ls : List (List Int)} {k : Nat} (h : RN k w v ls) (n : Nat) : ∀ d ∈ (ls.take n).map caD1, OkD d := by
  intro c hc
  obtain ⟨z, hz, rfl⟩ := List.mem_map.1 hc
  have := h.ok z (List.mem_of_mem_take hz)
  exact ⟨this 0, this 1⟩

theorem New_z (n0 : Nat) (ls : List Lt) (cs : List Cr) (ds : List Dy) (vl vc vd : Value) (w : World) (hn : n0 ≤ w.heap.size) (hl : SR Lt.cs 2 w vl ls) (hc : SR Cr.cs 5 w vc cs) (hd : SR Dy.cs 2 w vd ds)
    (hlo : ∀ l ∈ ls, OkI l.id) (hco : ∀ c ∈ cs, c.ok) (hdo : ∀ d ∈ ds, OkD d) (hdl : ds.length ≤ 1000) :
    Calls Tryz.prog 15 #[.agg (tenC vl vc), vd] w fun e w' => ∃ v, e = .returned v ∧ Ext w w' ∧ NB n0 (newB ls cs ds) v w' :=
  (New_any ls cs ds vl vc vd w hl hc hd hlo hco hdo hdl).mono fun _ _ ⟨p, F, he, hb, hF, hx⟩ => ⟨_, he, hx, p, F, rfl, hb, fun k hk => Nat.le_trans hn (hF k hk)⟩
theorem refNew_z (n0 : Nat) (ls : List Lt) (cs : List Cr) (ds : List Dy) (vl vc vd : Value) (w : World) (hn : n0 ≤ w.heap.size) (hl : SR Lt.cs 2 w vl ls) (hc : SR Cr.cs 5 w vc cs) (hd : SR Dy.cs 2 w vd ds)
    (hlo : ∀ l ∈ ls, OkI l.id) (hll : ls.length ≤ 1000) (hcl : cs.length ≤ 1000) (hdl : ds.length ≤ 1000) :
    Calls Tryz.prog 17 #[.agg (tenC vl vc), vd] w fun e w' => ∃ v, e = .returned v ∧ Ext w w' ∧ RBv n0 (lotsW ls) (crisW cs) (dutsW ds) v w' :=
  (refNew_any ls cs ds vl vc vd w hl hc hd hlo hll hcl hdl).mono fun _ _ ⟨p, he, hr, hx⟩ => ⟨_, he, hx, p, rfl, by
    obtain ⟨a, b, c, h0, h1, h2, h3, h4⟩ := hr
    exact ⟨a, b, c, Nat.le_trans hn h0, h1, row_base h2 hn, row_base h3 hn, row_base h4 hn⟩⟩


theorem holds_head {f : World → Prop} {fs : List (World → Prop)} {w : World} (h : Rr.Holds (f :: fs) w) : f w := h f List.mem_cons_self
/-- Two new books, as values. -/
def NB2 (n0 : Nat) (b1 : Bk) (v1 : Value) (b2 : Bk) (v2 : Value) (W : World) : Prop :=
  ∃ p1 F1 p2 F2, v1 = .pointer (some ⟨p1, 0, none⟩) ∧ v2 = .pointer (some ⟨p2, 0, none⟩) ∧ BR W p1 b1 F1 ∧ BR W p2 b2 F2 ∧ (∀ k ∈ F1, n0 ≤ k ∧ k ∉ F2) ∧ ∀ k ∈ F2, n0 ≤ k
theorem NB2.ext {n0 : Nat} {b1 b2 : Bk} {v1 v2 : Value} {w w' : World} (h : NB2 n0 b1 v1 b2 v2 w) (e : Ext w w') : NB2 n0 b1 v1 b2 v2 w' := by
  obtain ⟨p1, F1, p2, F2, e1, e2, h1, h2, h3, h4⟩ := h
  exact ⟨p1, F1, p2, F2, e1, e2, h1.ext e, h2.ext e, h3, h4⟩
theorem New_z2 (n0 : Nat) (b1 : Bk) (v1 : Value) (ls : List Lt) (cs : List Cr) (ds : List Dy) (vl vc vd : Value) (w : World) (hb : NB n0 b1 v1 w) (hn : n0 ≤ w.heap.size) (hl : SR Lt.cs 2 w vl ls) (hc : SR Cr.cs 5 w vc cs) (hd : SR Dy.cs 2 w vd ds)
    (hlo : ∀ l ∈ ls, OkI l.id) (hco : ∀ c ∈ cs, c.ok) (hdo : ∀ d ∈ ds, OkD d) (hdl : ds.length ≤ 1000) :
    Calls Tryz.prog 15 #[.agg (tenC vl vc), vd] w fun e w' => ∃ v, e = .returned v ∧ Ext w w' ∧ NB2 n0 b1 v1 (newB ls cs ds) v w' :=
  (New_any ls cs ds vl vc vd w hl hc hd hlo hco hdo hdl).mono fun _ _ ⟨p, F, he, hr, hF, hx⟩ => ⟨_, he, hx, by
    obtain ⟨p1, F1, h1, h2, h3⟩ := hb
    exact ⟨p1, F1, p, F, h1, rfl, h2.ext hx, hr, fun k hk => ⟨h3 k hk, fun hm => by have := hF k hm; have := h2.lt k hk; omega⟩, fun k hk => Nat.le_trans hn (hF k hk)⟩⟩
theorem nameB_size (i : Nat) : (nameB i).size ≤ 1000 := by
  match i with
  | 0 => decide
  | 1 => decide
  | 2 => decide
  | n + 3 => show (⟨#[111, 116, 104, 101, 114]⟩ : ByteArray).size ≤ 1000; decide
theorem crisW_name {cs : List (List Int)} : ∀ c ∈ crisW (cs.map caC1), c.name.size ≤ 1000 :=
  (fold_ok (p := fun c : Cr => c.name.size ≤ 1000) (g := id) (cs.map caC1) (fun acc a => by unfold criS; split; exact .inr rfl; exact .inl rfl) (fun c hc => by
    obtain ⟨z, -, rfl⟩ := List.mem_map.1 hc
    exact nameB_size _)).1

set_option maxRecDepth 100000 in
set_option maxHeartbeats 4000000 in
theorem order_walk (v0 v1 v2 vn : Value) (q : Int) (ls ns : List Int) (cs ds : List (List Int)) (w : World) (ht : TabW w) (hq : 0 ≤ q ∧ q ≤ 255) (h0 : IRd w v0 ls) (h1 : RN 4 w v1 cs) (h2 : RN 2 w v2 ds) (h3 : IRd w vn ns) :
    Calls Tryz.prog 7 #[.agg #[v0, v1, v2], .int .u8 q, vn] w fun e w' => e = .returned (.bool true) ∧ Ext w w' := by
  obtain ⟨an, cn, rfl, hnl, -⟩ := id h3
  have H0 := Lib.hid h0; have H1 := Lib.hid h1; have H2 := Lib.hid h2; have H3 := Lib.hid h3; have HTB := Lib.hid ht
  clear h0 h1 h2 h3 ht
  go_enter Tryz.func7, Tryz.ntmps7
  go_upto_region 2 with (go_at_call 8; (with_reducible refine (sanity_any _).mono ?_); rintro e w1 ⟨rfl, hx1⟩)
  have hcb := keep_heap hx1 (heap_alloc_new w (.cells #[v0, v1, v2] 64))
  have hx1' : Ext w w1 := (Ext.alloc (Ext.refl _) _).trans hx1
  have hM := Make_any ls cs ds v0 v1 v2 w1 (H0.out.ext hx1') (H1.out.ext hx1') (H2.out.ext hx1')
  have hLO := caL_ok H0.out 3
  have hCO := caC_ok H1.out 4
  have hDO := caD_ok H2.out 9
  have hLl : ((ls.take 3).map caL1).length ≤ 3 := by simp; omega
  have hCl : ((cs.take 4).map caC1).length ≤ 4 := by simp; omega
  have hDl : ((ds.take 9).map caD1).length ≤ 9 := by simp; omega
  have HCN : Hid (∀ c ∈ crisW ((cs.take 4).map caC1), c.name.size ≤ 1000) := Lib.hid crisW_name
  obtain ⟨LT, hLT⟩ : ∃ LT, LT = (ls.take 3).map caL1 := ⟨_, rfl⟩
  obtain ⟨CT, hCT⟩ : ∃ CT, CT = (cs.take 4).map caC1 := ⟨_, rfl⟩
  obtain ⟨DT, hDT⟩ : ∃ DT, DT = (ds.take 9).map caD1 := ⟨_, rfl⟩
  rw [← hLT] at hLO hLl hM
  rw [← hCT] at hCO hCl hM HCN
  rw [← hDT] at hDO hDl hM
  clear hLT hCT hDT
  have HM := Lib.hid hM; clear hM
  have HX1 := Lib.hid hx1'
  have HCB := Lib.hid hcb
  clear hcb hx1 hx1'
  go_upto_region 3 with (first
    | (refine wpList_load_row (hgd := rfl) 64 (.tmp 3) rfl w.heap.size (by rfl) 64 _ _ _ HCB.out Tryz.underlying64 rfl (by kernel_rfl) ?_)
    | (go_at_call 16; (with_reducible refine HM.out.mono ?_); rintro e w2 ⟨vl, vc, vd, rfl, hx2, hr1, hr2, hr3⟩; obtain ⟨lb, lc, rfl⟩ := (SR.of_row (cs := Lt.cs) (fun _ => rfl) hr1 (by omega)).form; obtain ⟨cb, cc, rfl⟩ := (SR.of_row (cs := Cr.cs) (fun _ => rfl) hr2 (by omega)).form; obtain ⟨db, dc, rfl⟩ := (SR.of_row (cs := Dy.cs) (fun _ => rfl) hr3 (by omega)).form)
    | (refine wpList_store_row (hgd := rfl) 55 (.tmp 8) (.tmp 24) rfl w2.heap.size (by rfl) (tenC _ _) (by rfl) (tenC nilV nilV) 55 (heap_alloc_new w2 _) (by rfl) (by kernel_rfl) (ten_one _ _ (by rfl) (by rfl)) ?_))
  obtain ⟨W3, hW3⟩ : ∃ W3, W3 = (w2.alloc (.cells (tenC nilV nilV) 55)).setRow w2.heap.size (tenC (.slice lb LT.length lc) (.slice cb CT.length cc)) := ⟨_, rfl⟩
  have hT3 : W3.heap[w2.heap.size]? = some (.cells (tenC (.slice lb LT.length lc) (.slice cb CT.length cc)) 55) := by rw [hW3]; exact setRow_heap _ _ _ _ 55 _ (heap_alloc_new w2 _)
  have hx3 : Ext w2 W3 := by rw [hW3]; exact below_setRow (Ext.alloc (Ext.refl _) _) (Nat.le_refl _) _
  change Code.wp _ _ _ _ ((w2.alloc (.cells (tenC nilV nilV) 55)).setRow w2.heap.size (tenC (.slice lb LT.length lc) (.slice cb CT.length cc)))
  rw [← hW3]
  obtain ⟨pt, hpt⟩ : ∃ pt, pt = w2.heap.size := ⟨_, rfl⟩
  rw [← hpt] at hT3 ⊢
  have HX3 := Lib.hid ((HX1.out.trans hx2).trans hx3)
  have HR1 := Lib.hid (SR.of_row (cs := Lt.cs) (fun _ => rfl) (row_ext hr1 hx3) (by omega))
  have HR2 := Lib.hid (SR.of_row (cs := Cr.cs) (fun _ => rfl) (row_ext hr2 hx3) (by omega))
  have HR3 := Lib.hid (SR.of_row (cs := Dy.cs) (fun _ => rfl) (row_ext hr3 hx3) (by omega))
  have HT3 := Lib.hid hT3; have HLO := Lib.hid hLO; have HCO := Lib.hid hCO; have HDO := Lib.hid hDO
  clear hW3 hT3 hpt hx2 hx3 hr1 hr2 hr3 HX1 HCB HM hLO hCO hDO H0 H1 H2
  by_cases hd0 : DT = []
  · go_wp2_with (fail)
    go_ret
    exact ⟨rfl, HX3.out⟩
  · have hdp : 0 < DT.length := List.length_pos_iff.2 hd0
    have hdz : ¬ (DT.length : Int) = 0 := by omega
    obtain ⟨ii, hii⟩ : ∃ ii : Nat, q % (DT.length : Int) = (ii : Int) := ⟨(q % (DT.length : Int)).toNat, by have := Int.emod_nonneg q (b := (DT.length : Int)) (by omega); omega⟩
    have hmod : q.tmod (DT.length : Int) = (ii : Int) := by rw [Int.tmod_eq_emod_of_nonneg hq.1]; exact hii
    have hil : ii < DT.length := by have := Int.emod_lt_of_pos q (b := (DT.length : Int)) (by omega); omega
    obtain ⟨hq0, hq1⟩ := hq
    clear hii
    obtain ⟨bd, rfl, hcell⟩ := row_at HR3.out ii hil
    have r1 := hcell 1 _ rfl
    have hbl := World.block_lt_of_cell? W3 _ r1
    have HOB := Lib.hid (HDO.out _ (List.getElem_mem hil)).2
    clear hcell
    generalize DT[ii].bid = bid at *
    have hDz : (DT.length : Int) ≤ 9 := by omega
    go_upto_region 6 with (fail)
    have HRN := Lib.hid (fun W (hW : Ext W3 W) => refNew_z W3.heap.size LT CT DT _ _ _ W hW.size (HR1.out.ext hW) (HR2.out.ext hW) (HR3.out.ext hW) HLO.out (by omega) (by omega) (by omega))
    obtain ⟨hLo, hLl2⟩ := lotsW_ok HLO.out
    obtain ⟨hCo, hCl2⟩ := crisW_ok HCO.out
    obtain ⟨hDo, hDl2⟩ := dutsW_ok HDO.out
    have hWH := fun (pw : Nat) (W : World) (hrb : RB W3.heap.size W pw (lotsW LT) (crisW CT) (dutsW DT)) (hxw : Ext w W) => Whole_any W3.heap.size pw (lotsW LT) (crisW CT) (dutsW DT) bid _ ns W hrb (H3.out.ext hxw) (by omega) (by omega) (by omega) hLo hCo hDo HOB.out
    have HWN := Lib.hid (wholeP_nodup (bid := bid) (dutsW_nodup DT) (lotsW_nodup LT) (crisW_nodup CT))
    have HWH := Lib.hid hWH
    clear hWH r1 hbl hLo hCo hDo hLl2 hCl2 hDl2
    generalize lotsW LT = L at *
    generalize crisW CT = C at *
    generalize dutsW DT = D at *
    generalize wholeP D bid L C = wps at *
    go_upto_region 7 with (first
      | (refine wpList_load_row (hgd := rfl) 55 (.tmp 8) rfl pt (by rfl) 55 _ _ _ HT3.out Tryz.underlying55 rfl (by kernel_rfl) ?_)
      | (go_at_call 17; (with_reducible refine (HRN.out _ (Ext.refl _)).mono ?_); rintro e w4 ⟨v, rfl, hx4, pw, rfl, hrb⟩)
      | (go_at_call 23; (with_reducible refine (HWH.out pw w4 hrb (HX3.out.trans hx4)).mono ?_); rintro e w5 ⟨rv, gs, rfl, hrow5, hwi, hgl, hx5⟩; obtain ⟨rb, rc, rfl⟩ := (SR.of_row (cs := Gd.cs) gd_len hrow5 (by omega)).form))
    have HX5 := Lib.hid (hx4.trans hx5)
    have HROW := Lib.hid (row_base hrow5 hx4.size)
    have HWI := Lib.hid hwi
    clear hx4 hx5 hrow5 hwi hrb HRN HWH
    refine Rr.wp_region [(0, .y), (1, .y), (3, .y), (4, .y), (2, .z), (5, .z)] (fun _ => (.cells #[] 29, Rg.ptr)) (by kernel_rfl) (by kernel_rfl) ?_
    (refine Rr.wr_y (by simp only [List.getElem?_toArray, List.getElem?_cons_succ, List.getElem?_cons_zero]; rfl) (by rfl) ?_
     apply Exists.intro
     refine ⟨fun wz hw _ => ?_, ?_⟩
     · have hcz := hw.cells.1
       exact up_row (by rfl) ((hw.block _ (Rg.lt_of_heap (keep_heap HX5.out HT3.out))).trans (keep_heap HX5.out HT3.out)) Tryz.underlying55 (by kernel_rfl)
     simp only [Act.put, List.setIfInBounds_toArray, List.set_cons_zero, List.set_cons_succ])
    (refine Rr.wr_y (by simp only [List.getElem?_toArray, List.getElem?_cons_succ, List.getElem?_cons_zero]; rfl) (by rfl) ?_
     apply Exists.intro
     refine ⟨fun wz hw _ => ?_, ?_⟩
     · have hcz := hw.cells.1
       go_simp
       (with_reducible exact Rg.up_value)
     simp only [Act.put, List.setIfInBounds_toArray, List.set_cons_zero, List.set_cons_succ])
    (refine Rr.wr_y (by simp only [List.getElem?_toArray, List.getElem?_cons_succ, List.getElem?_cons_zero]; rfl) (by rfl) ?_
     apply Exists.intro
     refine ⟨fun wz hw _ => ?_, ?_⟩
     · have hcz := hw.cells.1
       exact up_row (by rfl) ((hw.block _ (Rg.lt_of_heap (keep_heap HX5.out HT3.out))).trans (keep_heap HX5.out HT3.out)) Tryz.underlying55 (by kernel_rfl)
     simp only [Act.put, List.setIfInBounds_toArray, List.set_cons_zero, List.set_cons_succ])
    (refine Rr.wr_y (by simp only [List.getElem?_toArray, List.getElem?_cons_succ, List.getElem?_cons_zero]; rfl) (by rfl) ?_
     apply Exists.intro
     refine ⟨fun wz hw _ => ?_, ?_⟩
     · have hcz := hw.cells.1
       go_simp
       (with_reducible exact Rg.up_value)
     simp only [Act.put, List.setIfInBounds_toArray, List.set_cons_zero, List.set_cons_succ])
    refine Rr.wr_z (NB w5.heap.size (newB LT CT DT)) (by simp only [List.getElem?_toArray, List.getElem?_cons_succ, List.getElem?_cons_zero]; rfl) (by rfl) (fun v w1 w2 h e => by first | exact Rd.ext e h | exact h.ext e) (fun wz hw hh => ?_) (fun u => ?_)
    · have hcz := hw.cells.1
      go_simp
      apply Rr.upR_enter
      (with_reducible refine (New_z w5.heap.size LT CT DT _ _ _ wz hw.size (HR1.out.ext (HX5.out.trans hw)) (HR2.out.ext (HX5.out.trans hw)) (HR3.out.ext (HX5.out.trans hw)) HLO.out HCO.out HDO.out (by omega)).mono ?_)
      rintro e w3 ⟨v3, rfl, hx3, hr3⟩
      exact ⟨v3, rfl, hx3, hr3⟩
    simp only [Act.put, List.setIfInBounds_toArray, List.set_cons_zero, List.set_cons_succ]
    refine Rr.wr_z (NB2 w5.heap.size (newB LT CT DT) u (newB LT CT DT)) (by simp only [List.getElem?_toArray, List.getElem?_cons_succ, List.getElem?_cons_zero]; rfl) (by rfl) (fun v w1 w2 h e => by first | exact Rd.ext e h | exact h.ext e) (fun wz hw hh => ?_) (fun u => ?_)
    · have hcz := hw.cells.1
      go_simp
      apply Rr.upR_enter
      (with_reducible refine (New_z2 w5.heap.size _ _ LT CT DT _ _ _ wz (holds_head hh) hw.size (HR1.out.ext (HX5.out.trans hw)) (HR2.out.ext (HX5.out.trans hw)) (HR3.out.ext (HX5.out.trans hw)) HLO.out HCO.out HDO.out (by omega)).mono ?_)
      rintro e w3 ⟨v3, rfl, hx3, hr3⟩
      exact ⟨v3, rfl, hx3, hr3⟩
    simp only [Act.put, List.setIfInBounds_toArray, List.set_cons_zero, List.set_cons_succ]
    refine Rr.wr_nil ?_
    intro W6 hx6 hh
    obtain ⟨p1, F1, p2, F2, hp1, hp2, hb1, hb2, hF1, hF2⟩ := hh _ List.mem_cons_self
    subst hp1 hp2
    simp only [List.length_cons, List.length_nil, List.drop_succ_cons, List.drop_zero, Nat.reduceAdd]
    have HROW6 := Lib.hid (row_ext HROW.out hx6)
    have hlt6 : ∀ k, (Value.slice rb gs.length rc).ownBlock = some k → k < w5.heap.size := fun k hk => (HROW.out.lt k hk).2
    have HB6 : Hid (B2 w W6 p1 (newB LT CT DT) p2 (newB LT CT DT) (Value.slice rb gs.length rc).ownBlock) := Lib.hid ⟨F1, F2, hb1, hb2, fun k hk => ⟨Nat.le_trans ((HX3.out.trans HX5.out).size) (hF1 k hk).1, (hF1 k hk).2⟩, fun k hk => Nat.le_trans ((HX3.out.trans HX5.out).size) (hF2 k hk),
      fun k hk => ⟨fun hm => by have := hlt6 k hk; have := (hF1 k hm).1; omega, fun hm => by have := hlt6 k hk; have := hF2 k hm; omega, Nat.lt_of_lt_of_le (hlt6 k hk) hx6.size⟩, (HX3.out.trans HX5.out).trans hx6⟩
    have HGI : Hid (GI (newB LT CT DT) [] (newB LT CT DT)) := Lib.hid (GI.start rfl rfl)
    have HFN : Hid (∀ n, (newB LT CT DT).fin n = false) := Lib.hid fun _ => rfl
    have HX6 := Lib.hid ((HX3.out.trans HX5.out).trans hx6)
    clear hh hb1 hb2 hF1 hF2 hlt6 hx6 HX5 HROW HR1 HR2 HR3 HT3 HLO HCO HDO
    generalize newB LT CT DT = b0 at *
    go_upto_region 9 with (fail)
    have HGL : Hid (gs.length ≤ 108) := Lib.hid hgl
    have hglz : (gs.length : Int) ≤ 108 := by omega
    obtain ⟨n5, hn5⟩ : ∃ n5, n5 = W3.heap.size := ⟨_, rfl⟩
    have HN5 : Hid (w.heap.size ≤ n5) := Lib.hid (by rw [hn5]; exact HX3.out.size)
    rw [← hn5] at HROW6
    clear hn5 hgl
    have HND : Hid ((gs.map Gd.pl).Nodup) := Lib.hid (by rw [HWI.out.1]; exact HWN.out)
    have HOK : Hid (∀ g ∈ gs, g.ok ∧ g.name.size ≤ 1000) := Lib.hid fun g hg => ⟨(HWI.out.2 g hg).1, by
      obtain ⟨c, hc, hcn, -⟩ := (HWI.out.2 g hg).2
      rw [← hcn]
      exact HCN.out c hc⟩
    clear HWI HWN HCN
    go_loopw [53] (fun k wr => ∃ (i : Nat) (b : Bk), k = .int .i64 i ∧ i ≤ gs.length ∧ B2 w wr p1 b p2 b0 (Value.slice rb gs.length rc).ownBlock ∧ wr.ownsRow n5 23 6 (.slice rb gs.length rc) gs.length (gs.flatMap Gd.cs) ∧ Hid (GI b0 (gs.take i) b)) (fun k _ => gs.length - (iof k).toNat)
    case atStart => exact ⟨0, b0, rfl, Nat.zero_le _, HB6.out, HROW6.out, by rw [List.take_zero]; exact HGI⟩
    case round =>
      obtain ⟨i, b1, rfl, hi, hbq, hrow, HG1⟩ := hrel
      by_cases hil1 : i < gs.length
      · obtain ⟨qb, rfl, hcell⟩ := row_at (SR.of_row (cs := Gd.cs) gd_len hrow (by omega)) i hil1
        have c0 := hcell 0 _ rfl
        have c1 := hcell 1 _ rfl
        have c2 := hcell 2 _ rfl
        have c3 := hcell 3 _ rfl
        have c4 := hcell 4 _ rfl
        have c5 := hcell 5 _ rfl
        have HGO := Lib.hid (HOK.out _ (List.getElem_mem hil1)).1
        have HGN := Lib.hid (HG1.out.give (g := gs[i]) (pl_apart HND.out i hil1))
        rw [← List.take_succ_eq_append_getElem hil1] at HGN
        have hol : b1.old.length < 100000 := by rw [HG1.out.old]; decide
        clear hcell
        generalize gs[i] = g at *
        obtain ⟨ga, gb, gl, gn, gN, gt⟩ := g
        simp only [Nat.add_zero] at c0 c1 c2 c3 c4 c5
        go_upto_region 11 with (fail)
        have hxa : Ext wr (wr.alloc (.cells #[.int .i64 ga, .int .i64 gb, .int .i64 gl, .string gn, .int .i64 gN, .int .i64 gt] 23)) := Ext.alloc (Ext.refl _) _
        have hq := heap_alloc_new wr (.cells #[.int .i64 ga, .int .i64 gb, .int .i64 gl, .string gn, .int .i64 gN, .int .i64 gt] 23)
        have hbq6 := hbq.ext hxa
        have hrow6 := row_ext hrow hxa
        obtain ⟨qv, hqv⟩ : ∃ qv, qv = wr.heap.size := ⟨_, rfl⟩
        rw [← hqv] at hq ⊢
        clear c0 c1 c2 c3 c4 c5 hbq hrow hxa hqv
        generalize wr.alloc (.cells #[.int .i64 ga, .int .i64 gb, .int .i64 gl, .string gn, .int .i64 gN, .int .i64 gt] 23) = w6 at *
        have HQ := Lib.hid hq
        have HR6 := Lib.hid hrow6
        have HG := Lib.hid (give_2 (g := ⟨ga, gb, gl, gn, gN, gt⟩) hbq6 HGO.out hol)
        generalize (giveR b1 ⟨ga, gb, gl, gn, gN, gt⟩).1 = ge at *
        generalize (giveR b1 ⟨ga, gb, gl, gn, gN, gt⟩).2 = b' at *
        simp only [Gd.v] at HG
        clear hq hbq6 hrow6 hol
        go_wp2_with (first
          | (refine wpList_load_row (hgd := rfl) 23 (.tmp 15) rfl qv (by rfl) 23 _ _ _ HQ.out Tryz.underlying23 rfl (by kernel_rfl) ?_)
          | (go_at_call 10; (with_reducible refine HG.out.mono ?_); rintro e w7 ⟨rfl, hb7, hk7, hc7, hs7⟩))
        exact ⟨⟨i + 1, b', by simp, by omega, hb7, row_of_block HR6.out hk7, HGN⟩, by simp [iof]; omega⟩
      · obtain rfl : i = gs.length := by omega
        rw [List.take_length] at HG1
        have HGS := HGI
        clear HGI hil1 hi HB6 HROW6
        have HBQ := Lib.hid hbq; have HROW := Lib.hid hrow
        clear hbq hrow
        go_upto_region 14 with (fail)
        obtain ⟨w8, hw8⟩ : ∃ w8, w8 = wr := ⟨_, rfl⟩
        rw [← hw8] at HBQ HROW ⊢
        clear hw8
        go_loopw [16] (fun k wr => ∃ (i : Nat) (g2 : List Gd), k = .int .i64 i ∧ 1 ≤ i ∧ i ≤ gs.length + 1 ∧ Hid (g2.Perm gs) ∧ B2 w wr p1 b1 p2 b0 (Value.slice rb gs.length rc).ownBlock ∧ wr.ownsRow n5 23 6 (.slice rb gs.length rc) gs.length (g2.flatMap Gd.cs)) (fun k _ => gs.length + 1 - (iof k).toNat)
        case atStart => exact ⟨1, gs, rfl, Nat.le_refl _, by omega, Lib.hid (List.Perm.refl _), HBQ.out, HROW.out⟩
        case round =>
          obtain ⟨i, g2, rfl, hi1, hi2, HPM, hbq, hrow⟩ := hrel
          by_cases hil : i < gs.length
          · by_cases hns : 0 < ns.length
            · have hg2 : g2.length = gs.length := HPM.out.length_eq
              have hnz : (0 : Int) < ns.length := by omega
              have hnn : ¬ ns = [] := by intro e; rw [e] at hns; simp at hns
              have hmod2 : ((i : Int)).tmod (ns.length : Int) = ((i % ns.length : Nat) : Int) := by
                rw [Int.tmod_eq_emod_of_nonneg (by omega)]; omega
              have hjj : i % ns.length < ns.length := Nat.mod_lt _ hns
              obtain ⟨vb, vo, rfl, hcl, hlo3⟩ := ird_at H3.out _ hjj
              have e4 := (hbq.ex.cells.1 _ _ (World.block_lt_of_cell? w _ hcl)).trans hcl
              have el := World.block_lt_of_cell? wr _ e4
              have hjn : ((i % ns.length : Nat) : Int) < ns.length := by omega
              generalize ns[i % ns.length] = x at *
              generalize i % ns.length = jm at *
              clear hcl hjj
              have kw2 : IntKind.i64.wrap ((i : Int) + 1) = (i : Int) + 1 := by rw [IntKind.wrap_i64]; omega
              have HMD := Lib.hid (fun wz => Mod_any x ((i : Int) + 1) (by omega) (by omega) hlo3 wz)
              have hb := modZ_bd x (m := (i : Int) + 1) (by omega)
              obtain ⟨j, hj⟩ : ∃ j : Nat, modZ x ((i : Int) + 1) = (j : Int) := ⟨(modZ x ((i : Int) + 1)).toNat, by omega⟩
              rw [hj] at HMD hb
              have hji : j < gs.length := by omega
              have hjz : (j : Int) < gs.length := by omega
              have hiz : (i : Int) < gs.length := by omega
              clear hj hb
              go_upto_region 17 with (go_at_call 18; (with_reducible refine (HMD.out _).mono ?_); rintro e w9 ⟨rfl, hx9⟩)
              have hrow9 := row_ext hrow hx9
              have hbq9 := hbq.ext hx9
              have hs9 := SR.of_row (cs := Gd.cs) gd_len (show w9.ownsRow n5 23 6 (.slice rb gs.length rc) g2.length (g2.flatMap Gd.cs) by rw [hg2]; exact hrow9) (by omega)
              obtain ⟨qb, rfl, hci⟩ := row_at hs9 i (by omega)
              obtain ⟨qb', hqb, hcj⟩ := row_at hs9 j (by omega)
              injection hqb with hqb
              injection hqb with hqb _ _
              subst hqb
              have c0 := hci 0 _ rfl
              have c1 := hci 1 _ rfl
              have c2 := hci 2 _ rfl
              have c3 := hci 3 _ rfl
              have c4 := hci 4 _ rfl
              have c5 := hci 5 _ rfl
              have d0 := hcj 0 _ rfl
              have d1 := hcj 1 _ rfl
              have d2 := hcj 2 _ rfl
              have d3 := hcj 3 _ rfl
              have d4 := hcj 4 _ rfl
              have d5 := hcj 5 _ rfl
              simp only [Nat.add_zero] at c0 c1 c2 c3 c4 c5 d0 d1 d2 d3 d4 d5
              have hbl := World.block_lt_of_cell? w9 _ c0
              have HPM2 : Hid (((g2.set i (g2[j]'(by omega))).set j (g2[i]'(by omega))).Perm gs) := Lib.hid ((List.set_set_perm (by omega) (by omega)).trans HPM.out)
              have HRW := Lib.hid hrow9; have HBQ9 := Lib.hid hbq9
              clear hci hcj hs9 hrow9 hbq9 hx9 hrow hbq e4 el
              have HGI2 : Hid (∀ (h1 : i < g2.length) (h2 : j < g2.length), True) := Lib.hid fun _ _ => trivial
              generalize hgi : g2[i]'(by omega) = gi at *
              generalize hgj : g2[j]'(by omega) = gj at *
              clear hgi hgj
              obtain ⟨ia, ib, il, inm, iN, it⟩ := gi
              obtain ⟨ja, jb, jl, jnm, jN, jt⟩ := gj
              refine Rp.wp_regionTE [2, 3] [(0, .y), (1, .y), (2, .y), (3, .y), (4, .y), (5, .y), (6, .y), (7, .y), (8, .y), (9, .y), (10, .y), (11, .y), (12, .y)] [13, 14, 15] (fun _ => (.cells #[] 23, Rg.ptr)) (fun c a d v w h => by have h' : _ ∧ _ := h; exact ⟨(Rr.put_defers a d v).symm.trans h'.1, h'.2⟩) (by kernel_rfl) (by kernel_rfl) ?_
              (refine Rr.wr_y (by simp only [List.getElem?_toArray, List.getElem?_cons_succ, List.getElem?_cons_zero]; rfl) (by rfl) ?_
               apply Exists.intro
               refine ⟨fun wz hw _ => ?_, ?_⟩
               · have hcz := hw.cells.1
                 go_simp
                 (with_reducible exact Rg.up_value)
               simp only [Act.put, List.setIfInBounds_toArray, List.set_cons_zero, List.set_cons_succ])
              (refine Rr.wr_y (by simp only [List.getElem?_toArray, List.getElem?_cons_succ, List.getElem?_cons_zero]; rfl) (by rfl) ?_
               apply Exists.intro
               refine ⟨fun wz hw _ => ?_, ?_⟩
               · have hcz := hw.cells.1
                 go_simp
                 (with_reducible exact Rg.up_value)
               simp only [Act.put, List.setIfInBounds_toArray, List.set_cons_zero, List.set_cons_succ])
              (refine Rr.wr_y (by simp only [List.getElem?_toArray, List.getElem?_cons_succ, List.getElem?_cons_zero]; rfl) (by rfl) ?_
               apply Exists.intro
               refine ⟨fun wz hw _ => ?_, ?_⟩
               · have hcz := hw.cells.1
                 go_simp
                 (with_reducible exact Rg.up_value)
               simp only [Act.put, List.setIfInBounds_toArray, List.set_cons_zero, List.set_cons_succ])
              (refine Rr.wr_y (by simp only [List.getElem?_toArray, List.getElem?_cons_succ, List.getElem?_cons_zero]; rfl) (by rfl) ?_
               apply Exists.intro
               refine ⟨fun wz hw _ => ?_, ?_⟩
               · have hcz := hw.cells.1
                 go_simp
                 (with_reducible exact Rg.up_value)
               simp only [Act.put, List.setIfInBounds_toArray, List.set_cons_zero, List.set_cons_succ])
              (refine Rr.wr_y (by simp only [List.getElem?_toArray, List.getElem?_cons_succ, List.getElem?_cons_zero]; rfl) (by rfl) ?_
               apply Exists.intro
               refine ⟨fun wz hw _ => ?_, ?_⟩
               · have hcz := hw.cells.1
                 go_simp
                 (with_reducible exact Rg.up_value)
               simp only [Act.put, List.setIfInBounds_toArray, List.set_cons_zero, List.set_cons_succ])
              (refine Rr.wr_y (by simp only [List.getElem?_toArray, List.getElem?_cons_succ, List.getElem?_cons_zero]; rfl) (by rfl) ?_
               apply Exists.intro
               refine ⟨fun wz hw _ => ?_, ?_⟩
               · have hcz := hw.cells.1
                 go_simp
                 (with_reducible exact Rg.up_value)
               simp only [Act.put, List.setIfInBounds_toArray, List.set_cons_zero, List.set_cons_succ])
              (refine Rr.wr_y (by simp only [List.getElem?_toArray, List.getElem?_cons_succ, List.getElem?_cons_zero]; rfl) (by rfl) ?_
               apply Exists.intro
               refine ⟨fun wz hw _ => ?_, ?_⟩
               · have hcz := hw.cells.1
                 go_simp
                 (with_reducible exact Rg.up_value)
               simp only [Act.put, List.setIfInBounds_toArray, List.set_cons_zero, List.set_cons_succ])
              (refine Rr.wr_y (by simp only [List.getElem?_toArray, List.getElem?_cons_succ, List.getElem?_cons_zero]; rfl) (by rfl) ?_
               apply Exists.intro
               refine ⟨fun wz hw _ => ?_, ?_⟩
               · have hcz := hw.cells.1
                 exact up_load55 (by rfl) ((hcz _ _ hbl).trans d0) ((hcz _ _ hbl).trans d1) ((hcz _ _ hbl).trans d2) ((hcz _ _ hbl).trans d3) ((hcz _ _ hbl).trans d4) ((hcz _ _ hbl).trans d5)
               simp only [Act.put, List.setIfInBounds_toArray, List.set_cons_zero, List.set_cons_succ])
              (refine Rr.wr_y (by simp only [List.getElem?_toArray, List.getElem?_cons_succ, List.getElem?_cons_zero]; rfl) (by rfl) ?_
               apply Exists.intro
               refine ⟨fun wz hw _ => ?_, ?_⟩
               · have hcz := hw.cells.1
                 go_simp
                 (with_reducible exact Rg.up_value)
               simp only [Act.put, List.setIfInBounds_toArray, List.set_cons_zero, List.set_cons_succ])
              (refine Rr.wr_y (by simp only [List.getElem?_toArray, List.getElem?_cons_succ, List.getElem?_cons_zero]; rfl) (by rfl) ?_
               apply Exists.intro
               refine ⟨fun wz hw _ => ?_, ?_⟩
               · have hcz := hw.cells.1
                 go_simp
                 (with_reducible exact Rg.up_value)
               simp only [Act.put, List.setIfInBounds_toArray, List.set_cons_zero, List.set_cons_succ])
              (refine Rr.wr_y (by simp only [List.getElem?_toArray, List.getElem?_cons_succ, List.getElem?_cons_zero]; rfl) (by rfl) ?_
               apply Exists.intro
               refine ⟨fun wz hw _ => ?_, ?_⟩
               · have hcz := hw.cells.1
                 go_simp
                 (with_reducible exact Rg.up_value)
               simp only [Act.put, List.setIfInBounds_toArray, List.set_cons_zero, List.set_cons_succ])
              (refine Rr.wr_y (by simp only [List.getElem?_toArray, List.getElem?_cons_succ, List.getElem?_cons_zero]; rfl) (by rfl) ?_
               apply Exists.intro
               refine ⟨fun wz hw _ => ?_, ?_⟩
               · have hcz := hw.cells.1
                 exact up_load55 (by rfl) ((hcz _ _ hbl).trans c0) ((hcz _ _ hbl).trans c1) ((hcz _ _ hbl).trans c2) ((hcz _ _ hbl).trans c3) ((hcz _ _ hbl).trans c4) ((hcz _ _ hbl).trans c5)
               simp only [Act.put, List.setIfInBounds_toArray, List.set_cons_zero, List.set_cons_succ])
              (refine Rr.wr_y (by simp only [List.getElem?_toArray, List.getElem?_cons_succ, List.getElem?_cons_zero]; rfl) (by rfl) ?_
               apply Exists.intro
               refine ⟨fun wz hw _ => ?_, ?_⟩
               · have hcz := hw.cells.1
                 go_simp
                 (with_reducible exact Rg.up_value)
               simp only [Act.put, List.setIfInBounds_toArray, List.set_cons_zero, List.set_cons_succ])
              refine Rr.wr_nil ?_
              intro wy hy hh
              clear hh
              simp only [List.filterMap_cons, List.filterMap_nil, List.getElem?_cons_succ, List.getElem?_cons_zero]
              have HRY := Lib.hid (row_ext HRW.out hy)
              have HBY := Lib.hid (HBQ9.out.ext hy)
              clear c0 c1 c2 c3 c4 c5 d0 d1 d2 d3 d4 d5 hbl hy HRW HBQ9
              refine wpList_store_elem rfl (.tmp 94) (.tmp 89) rfl qb i gs.length rc n5 g2 ⟨ja, jb, jl, jnm, jN, jt⟩ (by rfl) (by rfl) HRY.out hg2 hil ?_
              intro wa hra hga
              have HRA := Lib.hid hra
              have HL2 : Hid ((g2.set i ⟨ja, jb, jl, jnm, jN, jt⟩).length = gs.length) := Lib.hid (by rw [List.length_set]; exact hg2)
              have HBA := Lib.hid (B2.row HBY.out hga (Nat.le_trans HN5.out (HRY.out.lt qb rfl).1))
              have HJI := Lib.hid hji
              clear hra hga HRY HBY
              refine wpList_plain rfl fun K hK => ?_
              unfold Oper.wp execOp
              go_simp
              refine hK _ _ ?_
              refine wpList_store_elem rfl (.tmp 95) (.tmp 93) rfl qb j gs.length rc n5 (g2.set i ⟨ja, jb, jl, jnm, jN, jt⟩) ⟨ia, ib, il, inm, iN, it⟩ (by rfl) (by rfl) HRA.out HL2.out HJI.out ?_
              intro wb hrb hgb
              go_wp2_with (fail)
              exact ⟨⟨i + 1, (g2.set i ⟨ja, jb, jl, jnm, jN, jt⟩).set j ⟨ia, ib, il, inm, iN, it⟩, by simp, by omega, by omega, HPM2, B2.row HBA.out hgb (Nat.le_trans HN5.out (HRA.out.lt qb rfl).1), hrb⟩, by simp [iof]; omega⟩
            · have hnz : ¬ (0 : Int) < (ns.length : Int) := by omega
              clear hns
              have hg2 : g2.length = gs.length := HPM.out.length_eq
              have HBQ2 := Lib.hid hbq; have HROW2 := Lib.hid hrow
              clear hbq hrow HBQ HROW
              go_upto_region 19 with (fail)
              try clear hnz
              obtain ⟨wc, hwc⟩ : ∃ wc, wc = wr := ⟨_, rfl⟩
              rw [← hwc] at HBQ2 HROW2 ⊢
              clear hwc
              have HND2 : Hid ((g2.map Gd.pl).Nodup) := Lib.hid ((HPM.out.map Gd.pl).nodup_iff.2 HND.out)
              go_loopw [98] (fun k wr => ∃ (i : Nat) (b : Bk), k = .int .i64 i ∧ i ≤ gs.length ∧ B2 w wr p1 b1 p2 b (Value.slice rb gs.length rc).ownBlock ∧ wr.ownsRow n5 23 6 (.slice rb gs.length rc) gs.length (g2.flatMap Gd.cs) ∧ Hid (GI b0 (g2.take i) b)) (fun k _ => gs.length - (iof k).toNat)
              case atStart => exact ⟨0, b0, rfl, Nat.zero_le _, HBQ2.out, HROW2.out, by rw [List.take_zero]; exact HGS⟩
              case round =>
                obtain ⟨i3, b3, rfl, hi3, hbq, hrow, HG3⟩ := hrel
                by_cases hil3 : i3 < gs.length
                · obtain ⟨qb3, rfl, hcell⟩ := row_at (SR.of_row (cs := Gd.cs) gd_len (show wr.ownsRow n5 23 6 (.slice rb gs.length rc) g2.length (g2.flatMap Gd.cs) by rw [hg2]; exact hrow) (by omega)) i3 (by omega)
                  have c0 := hcell 0 _ rfl
                  have c1 := hcell 1 _ rfl
                  have c2 := hcell 2 _ rfl
                  have c3 := hcell 3 _ rfl
                  have c4 := hcell 4 _ rfl
                  have c5 := hcell 5 _ rfl
                  have hil4 : i3 < g2.length := by omega
                  have HGO := Lib.hid (HOK.out _ (HPM.out.mem_iff.1 (List.getElem_mem hil4))).1
                  have HGN := Lib.hid (HG3.out.give (g := g2[i3]) (pl_apart HND2.out i3 hil4))
                  rw [← List.take_succ_eq_append_getElem hil4] at HGN
                  have hol : b3.old.length < 100000 := by rw [HG3.out.old]; decide
                  clear hcell
                  generalize g2[i3] = g at *
                  obtain ⟨ga, gb, gl, gn, gN, gt⟩ := g
                  simp only [Nat.add_zero] at c0 c1 c2 c3 c4 c5
                  go_upto_region 21 with (fail)
                  have hxa : Ext wr (wr.alloc (.cells #[.int .i64 ga, .int .i64 gb, .int .i64 gl, .string gn, .int .i64 gN, .int .i64 gt] 23)) := Ext.alloc (Ext.refl _) _
                  have hq := heap_alloc_new wr (.cells #[.int .i64 ga, .int .i64 gb, .int .i64 gl, .string gn, .int .i64 gN, .int .i64 gt] 23)
                  have hbq6 := hbq.ext hxa
                  have hrow6 := row_ext hrow hxa
                  obtain ⟨qv, hqv⟩ : ∃ qv, qv = wr.heap.size := ⟨_, rfl⟩
                  rw [← hqv] at hq ⊢
                  clear c0 c1 c2 c3 c4 c5 hbq hrow hxa hqv
                  generalize wr.alloc (.cells #[.int .i64 ga, .int .i64 gb, .int .i64 gl, .string gn, .int .i64 gN, .int .i64 gt] 23) = w6 at *
                  have HQ := Lib.hid hq
                  have HR6 := Lib.hid hrow6
                  have HG := Lib.hid (give_2 (g := ⟨ga, gb, gl, gn, gN, gt⟩) hbq6.swap HGO.out hol)
                  generalize (giveR b3 ⟨ga, gb, gl, gn, gN, gt⟩).1 = ge at *
                  generalize (giveR b3 ⟨ga, gb, gl, gn, gN, gt⟩).2 = b' at *
                  simp only [Gd.v] at HG
                  clear hq hbq6 hrow6 hol
                  go_wp2_with (first
                    | (refine wpList_load_row (hgd := rfl) 23 (.tmp 19) rfl qv (by rfl) 23 _ _ _ HQ.out Tryz.underlying23 rfl (by kernel_rfl) ?_)
                    | (go_at_call 10; (with_reducible refine HG.out.mono ?_); rintro e w7 ⟨rfl, hb7, hk7, hc7, hs7⟩))
                  exact ⟨⟨i3 + 1, b', by simp, by omega, hb7.swap, row_of_block HR6.out hk7, HGN⟩, by simp [iof]; omega⟩
                · obtain rfl : i3 = gs.length := by omega
                  rw [← hg2, List.take_length] at HG3
                  obtain rfl : b1 = b3 := HG1.out.eq HG3.out (fun g => (HPM.out.mem_iff).symm)
                  have HF1 := Lib.hid (final_2 (bid := bid) hbq HOB.out)
                  have HFB := Lib.hid (finB_facts b1 bid)
                  have HPS : Hid (∀ k, ((finB b1 bid).gr k).isSome → k ∈ gs.map Gd.pl) := Lib.hid fun k hk => by
                    rw [HFB.out.1] at hk
                    obtain ⟨g, hg⟩ := Option.isSome_iff_exists.1 hk
                    obtain ⟨h1, h2, -⟩ := (HG1.out.gr k g).1 hg
                    exact List.mem_map.2 ⟨g, h1, h2⟩
                  have HFS : Hid (∀ n, (finB b1 bid).fin n = true → n ∈ [bid]) := Lib.hid fun n hn => by
                    rcases HFB.out.2.2 n hn with h | h
                    · rw [HG1.out.fin, HFN.out] at h; cases h
                    · rw [h]; exact List.mem_cons_self
                  have HOL : Hid ((finB b1 bid).old = []) := Lib.hid (by rw [HFB.out.2.1, HG1.out.old])
                  have HNM : Hid (∀ k g, (finB b1 bid).gr k = some g → g.name.size ≤ 1000) := Lib.hid fun k g hg => by
                    rw [HFB.out.1] at hg
                    exact (HOK.out g ((HG1.out.gr k g).1 hg).1).2
                  have HF2 : Hid (∀ W, B2 w W p1 (finB b1 bid) p2 b1 (Value.slice rb gs.length rc).ownBlock → Calls Tryz.prog 11 #[.pointer (some ⟨p2, 0, none⟩), .int .i64 bid] W fun e w' => e = .returned (.int .i64 (finE b1 bid)) ∧ B2 w w' p1 (finB b1 bid) p2 (finB b1 bid) (Value.slice rb gs.length rc).ownBlock) := Lib.hid fun W hW => (final_2 (bid := bid) hW.swap HOB.out).mono fun _ _ ⟨he, hb, _⟩ => ⟨he, hb.swap⟩
                  have HNG : Hid ((gs.map Gd.pl).length ≤ 100000) := Lib.hid (by rw [List.length_map]; have := HGL.out; omega)
                  clear HFB hbq hrow HBQ2 HROW2 HG1 HG3 HGS HND2 HPM hg2 hil3 hi3
                  generalize finB b1 bid = bf at *
                  generalize finE b1 bid = fe at *
                  go_upto_region 25 with (first
                    | (go_at_call 11; (with_reducible refine HF1.out.mono ?_); rintro e w11 ⟨rfl, hb11, -⟩)
                    | (go_at_call 11; (with_reducible refine (HF2.out _ hb11).mono ?_); rintro e w12 ⟨rfl, hb12⟩))
                  have HB12 := Lib.hid hb12
                  clear HF1 HF2 hb11 hb12
                  have HE1 := Lib.hid (encode_2 HB12.out (HTB.out.ext HB12.out.ex) _ HPS.out HNG.out [bid] HFS.out (by simp) (by rw [HOL.out]; simp) HNM.out (by rw [HOL.out]; simp))
                  have HE2 := Lib.hid (fun W (hW : Ext w12 W) => encode_2 (HB12.out.ext hW).swap (HTB.out.ext (HB12.out.ext hW).ex) _ HPS.out HNG.out [bid] HFS.out (by simp) (by rw [HOL.out]; simp) HNM.out (by rw [HOL.out]; simp))
                  have HC1 := Lib.hid (fun W (hW : Ext w12 W) => changed_e (HB12.out.ext hW) HOL.out)
                  have HC2 := Lib.hid (fun W (hW : Ext w12 W) => changed_e (HB12.out.ext hW).swap HOL.out)
                  go_wp2_with (first
                    | (go_at_call 14; (with_reducible refine HE1.out.mono ?_); rintro e w13 ⟨s1, rfl, hE1, hx13⟩)
                    | (go_at_call 14; (with_reducible refine (HE2.out _ hx13).mono ?_); rintro e w14 ⟨s2, rfl, hE2, hx14⟩; obtain rfl := hE1.same hE2 rfl rfl rfl; have hx14' := hx13.trans hx14)
                    | (go_at_call 13; (with_reducible refine (HC1.out _ hx14').mono ?_); rintro e w15 ⟨A1, c1, rfl, hx15⟩; have hx15' := hx14'.trans hx15)
                    | (go_at_call 13; (with_reducible refine (HC2.out _ hx15').mono ?_); rintro e w16 ⟨A2, c2, rfl, hx16⟩))
                  go_ret
                  exact ⟨rfl, HB12.out.ex.trans (hx15'.trans hx16)⟩
          ·
            have hg2 : g2.length = gs.length := HPM.out.length_eq
            have HBQ2 := Lib.hid hbq; have HROW2 := Lib.hid hrow
            clear hbq hrow HBQ HROW
            go_upto_region 19 with (fail)
            try clear hnz
            obtain ⟨wc, hwc⟩ : ∃ wc, wc = wr := ⟨_, rfl⟩
            rw [← hwc] at HBQ2 HROW2 ⊢
            clear hwc
            have HND2 : Hid ((g2.map Gd.pl).Nodup) := Lib.hid ((HPM.out.map Gd.pl).nodup_iff.2 HND.out)
            go_loopw [98] (fun k wr => ∃ (i : Nat) (b : Bk), k = .int .i64 i ∧ i ≤ gs.length ∧ B2 w wr p1 b1 p2 b (Value.slice rb gs.length rc).ownBlock ∧ wr.ownsRow n5 23 6 (.slice rb gs.length rc) gs.length (g2.flatMap Gd.cs) ∧ Hid (GI b0 (g2.take i) b)) (fun k _ => gs.length - (iof k).toNat)
            case atStart => exact ⟨0, b0, rfl, Nat.zero_le _, HBQ2.out, HROW2.out, by rw [List.take_zero]; exact HGS⟩
            case round =>
              obtain ⟨i3, b3, rfl, hi3, hbq, hrow, HG3⟩ := hrel
              by_cases hil3 : i3 < gs.length
              · obtain ⟨qb3, rfl, hcell⟩ := row_at (SR.of_row (cs := Gd.cs) gd_len (show wr.ownsRow n5 23 6 (.slice rb gs.length rc) g2.length (g2.flatMap Gd.cs) by rw [hg2]; exact hrow) (by omega)) i3 (by omega)
                have c0 := hcell 0 _ rfl
                have c1 := hcell 1 _ rfl
                have c2 := hcell 2 _ rfl
                have c3 := hcell 3 _ rfl
                have c4 := hcell 4 _ rfl
                have c5 := hcell 5 _ rfl
                have hil4 : i3 < g2.length := by omega
                have HGO := Lib.hid (HOK.out _ (HPM.out.mem_iff.1 (List.getElem_mem hil4))).1
                have HGN := Lib.hid (HG3.out.give (g := g2[i3]) (pl_apart HND2.out i3 hil4))
                rw [← List.take_succ_eq_append_getElem hil4] at HGN
                have hol : b3.old.length < 100000 := by rw [HG3.out.old]; decide
                clear hcell
                generalize g2[i3] = g at *
                obtain ⟨ga, gb, gl, gn, gN, gt⟩ := g
                simp only [Nat.add_zero] at c0 c1 c2 c3 c4 c5
                go_upto_region 21 with (fail)
                have hxa : Ext wr (wr.alloc (.cells #[.int .i64 ga, .int .i64 gb, .int .i64 gl, .string gn, .int .i64 gN, .int .i64 gt] 23)) := Ext.alloc (Ext.refl _) _
                have hq := heap_alloc_new wr (.cells #[.int .i64 ga, .int .i64 gb, .int .i64 gl, .string gn, .int .i64 gN, .int .i64 gt] 23)
                have hbq6 := hbq.ext hxa
                have hrow6 := row_ext hrow hxa
                obtain ⟨qv, hqv⟩ : ∃ qv, qv = wr.heap.size := ⟨_, rfl⟩
                rw [← hqv] at hq ⊢
                clear c0 c1 c2 c3 c4 c5 hbq hrow hxa hqv
                generalize wr.alloc (.cells #[.int .i64 ga, .int .i64 gb, .int .i64 gl, .string gn, .int .i64 gN, .int .i64 gt] 23) = w6 at *
                have HQ := Lib.hid hq
                have HR6 := Lib.hid hrow6
                have HG := Lib.hid (give_2 (g := ⟨ga, gb, gl, gn, gN, gt⟩) hbq6.swap HGO.out hol)
                generalize (giveR b3 ⟨ga, gb, gl, gn, gN, gt⟩).1 = ge at *
                generalize (giveR b3 ⟨ga, gb, gl, gn, gN, gt⟩).2 = b' at *
                simp only [Gd.v] at HG
                clear hq hbq6 hrow6 hol
                go_wp2_with (first
                  | (refine wpList_load_row (hgd := rfl) 23 (.tmp 19) rfl qv (by rfl) 23 _ _ _ HQ.out Tryz.underlying23 rfl (by kernel_rfl) ?_)
                  | (go_at_call 10; (with_reducible refine HG.out.mono ?_); rintro e w7 ⟨rfl, hb7, hk7, hc7, hs7⟩))
                exact ⟨⟨i3 + 1, b', by simp, by omega, hb7.swap, row_of_block HR6.out hk7, HGN⟩, by simp [iof]; omega⟩
              · obtain rfl : i3 = gs.length := by omega
                rw [← hg2, List.take_length] at HG3
                obtain rfl : b1 = b3 := HG1.out.eq HG3.out (fun g => (HPM.out.mem_iff).symm)
                have HF1 := Lib.hid (final_2 (bid := bid) hbq HOB.out)
                have HFB := Lib.hid (finB_facts b1 bid)
                have HPS : Hid (∀ k, ((finB b1 bid).gr k).isSome → k ∈ gs.map Gd.pl) := Lib.hid fun k hk => by
                  rw [HFB.out.1] at hk
                  obtain ⟨g, hg⟩ := Option.isSome_iff_exists.1 hk
                  obtain ⟨h1, h2, -⟩ := (HG1.out.gr k g).1 hg
                  exact List.mem_map.2 ⟨g, h1, h2⟩
                have HFS : Hid (∀ n, (finB b1 bid).fin n = true → n ∈ [bid]) := Lib.hid fun n hn => by
                  rcases HFB.out.2.2 n hn with h | h
                  · rw [HG1.out.fin, HFN.out] at h; cases h
                  · rw [h]; exact List.mem_cons_self
                have HOL : Hid ((finB b1 bid).old = []) := Lib.hid (by rw [HFB.out.2.1, HG1.out.old])
                have HNM : Hid (∀ k g, (finB b1 bid).gr k = some g → g.name.size ≤ 1000) := Lib.hid fun k g hg => by
                  rw [HFB.out.1] at hg
                  exact (HOK.out g ((HG1.out.gr k g).1 hg).1).2
                have HF2 : Hid (∀ W, B2 w W p1 (finB b1 bid) p2 b1 (Value.slice rb gs.length rc).ownBlock → Calls Tryz.prog 11 #[.pointer (some ⟨p2, 0, none⟩), .int .i64 bid] W fun e w' => e = .returned (.int .i64 (finE b1 bid)) ∧ B2 w w' p1 (finB b1 bid) p2 (finB b1 bid) (Value.slice rb gs.length rc).ownBlock) := Lib.hid fun W hW => (final_2 (bid := bid) hW.swap HOB.out).mono fun _ _ ⟨he, hb, _⟩ => ⟨he, hb.swap⟩
                have HNG : Hid ((gs.map Gd.pl).length ≤ 100000) := Lib.hid (by rw [List.length_map]; have := HGL.out; omega)
                clear HFB hbq hrow HBQ2 HROW2 HG1 HG3 HGS HND2 HPM hg2 hil3 hi3
                generalize finB b1 bid = bf at *
                generalize finE b1 bid = fe at *
                go_upto_region 25 with (first
                  | (go_at_call 11; (with_reducible refine HF1.out.mono ?_); rintro e w11 ⟨rfl, hb11, -⟩)
                  | (go_at_call 11; (with_reducible refine (HF2.out _ hb11).mono ?_); rintro e w12 ⟨rfl, hb12⟩))
                have HB12 := Lib.hid hb12
                clear HF1 HF2 hb11 hb12
                have HE1 := Lib.hid (encode_2 HB12.out (HTB.out.ext HB12.out.ex) _ HPS.out HNG.out [bid] HFS.out (by simp) (by rw [HOL.out]; simp) HNM.out (by rw [HOL.out]; simp))
                have HE2 := Lib.hid (fun W (hW : Ext w12 W) => encode_2 (HB12.out.ext hW).swap (HTB.out.ext (HB12.out.ext hW).ex) _ HPS.out HNG.out [bid] HFS.out (by simp) (by rw [HOL.out]; simp) HNM.out (by rw [HOL.out]; simp))
                have HC1 := Lib.hid (fun W (hW : Ext w12 W) => changed_e (HB12.out.ext hW) HOL.out)
                have HC2 := Lib.hid (fun W (hW : Ext w12 W) => changed_e (HB12.out.ext hW).swap HOL.out)
                go_wp2_with (first
                  | (go_at_call 14; (with_reducible refine HE1.out.mono ?_); rintro e w13 ⟨s1, rfl, hE1, hx13⟩)
                  | (go_at_call 14; (with_reducible refine (HE2.out _ hx13).mono ?_); rintro e w14 ⟨s2, rfl, hE2, hx14⟩; obtain rfl := hE1.same hE2 rfl rfl rfl; have hx14' := hx13.trans hx14)
                  | (go_at_call 13; (with_reducible refine (HC1.out _ hx14').mono ?_); rintro e w15 ⟨A1, c1, rfl, hx15⟩; have hx15' := hx14'.trans hx15)
                  | (go_at_call 13; (with_reducible refine (HC2.out _ hx15').mono ?_); rintro e w16 ⟨A2, c2, rfl, hx16⟩))
                go_ret
                exact ⟨rfl, HB12.out.ex.trans (hx15'.trans hx16)⟩
end Go.Proofs.YtnplnfkmcfalhaaGreatDoor
