/-
  GradeWhole, walked. Conditions: the arguments read as numbers, and the table of powers of ten.
-/
import Derived.Test.YtnplnfkmcfalhaaGreatDoorJpD
namespace Go.Proofs.YtnplnfkmcfalhaaGreatDoor
set_option linter.unusedVariables false
set_option linter.unusedSimpArgs false
open Go.RowKit

theorem whole_at {D : List Dy} {bid : Int} {L : List Int} {C : List Cr} {p : Pl} (h : p ∈ wholeP D bid L C) : p.bid = bid ∧ p.lot ∈ L ∧ (⟨p.ass, bid⟩ : Dy) ∈ D ∧ ∃ c ∈ C, c.name = p.name := by
  unfold wholeP at h
  obtain ⟨d, hd, hp⟩ := List.mem_flatMap.1 h
  unfold dutP at hp
  split at hp
  · rename_i hb
    obtain ⟨l, hl, hp⟩ := List.mem_flatMap.1 hp
    obtain ⟨c, hc, rfl⟩ := List.mem_map.1 hp
    exact ⟨rfl, hl, by cases d; simp only at hb; subst hb; exact hd, c, hc, rfl⟩
  · cases hp
/-- The answer to a grade of a bidder who isn't final: taken, or a number out of range. -/
theorem refE_open {L : List Int} {C : List Cr} {D : List Dy} {N : List Int} {g : Gd} (h1 : g.lot ∈ L) (h2 : (⟨g.ass, g.bid⟩ : Dy) ∈ D) (h3 : ∃ c ∈ C, c.name = g.name) (h4 : g.bid ∉ N) : refE L C D N g = 0 ∨ refE L C D N g = 16 := by
  have hs : (critOf C g.name).isSome := by
    unfold critOf
    rw [List.find?_isSome]
    obtain ⟨c, hc, hn⟩ := h3
    exact ⟨c, hc, by simpa using hn⟩
  obtain ⟨c, hc⟩ := Option.isSome_iff_exists.1 hs
  rw [refE_some hc, if_neg (fun e => e h1), if_neg (fun e => e h2)]
  by_cases h5 : g.n < c.low ∨ c.high < g.n
  · rw [if_pos h5]
    exact .inr rfl
  · rw [if_neg h5, if_neg h4]
    exact .inl rfl

set_option maxRecDepth 100000 in
set_option maxHeartbeats 4000000 in
theorem whole_walk (v0 v1 v2 vn : Value) (q : Int) (ls ns : List Int) (cs ds : List (List Int)) (w : World) (ht : TabW w) (hq : 0 ≤ q ∧ q ≤ 255) (h0 : IRd w v0 ls) (h1 : RN 4 w v1 cs) (h2 : RN 2 w v2 ds) (h3 : IRd w vn ns) :
    Calls Tryz.prog 6 #[.agg #[v0, v1, v2], .int .u8 q, vn] w fun e w' => e = .returned (.bool true) ∧ Ext w w' := by
  obtain ⟨an, cn, rfl, hnl, -⟩ := id h3
  have H0 := Lib.hid h0; have H1 := Lib.hid h1; have H2 := Lib.hid h2; have H3 := Lib.hid h3; have HTB := Lib.hid ht
  clear h0 h1 h2 h3 ht
  go_enter Tryz.func6, Tryz.ntmps6
  go_upto_region 2 with (go_at_call 8; (with_reducible refine (sanity_any _).mono ?_); rintro e w1 ⟨rfl, hx1⟩)
  have hcb := keep_heap hx1 (heap_alloc_new w (.cells #[v0, v1, v2] 64))
  have hx1' : Ext w w1 := (Ext.alloc (Ext.refl _) _).trans hx1
  have hM := Make_any ls cs ds v0 v1 v2 w1 (H0.out.ext hx1') (H1.out.ext hx1') (H2.out.ext hx1')
  have hLO := caL_ok H0.out 3
  have hCO := caC_ok H1.out 4
  have hDO := caD_ok H2.out 9
  have hLl : ((ls.take 3).map caL1).length ≤ 3 := by simp; omega
  have hCl : ((cs.take 4).map caC1).length ≤ 4 := by simp; omega
  have hDl : ((ds.take 9).map caD1).length ≤ 9 := by simp; omega
  have HCN : Hid (∀ c ∈ crisW ((cs.take 4).map caC1), c.name.size ≤ 1000) := Lib.hid crisW_name
  obtain ⟨LT, hLT⟩ : ∃ LT, LT = (ls.take 3).map caL1 := ⟨_, rfl⟩
  obtain ⟨CT, hCT⟩ : ∃ CT, CT = (cs.take 4).map caC1 := ⟨_, rfl⟩
  obtain ⟨DT, hDT⟩ : ∃ DT, DT = (ds.take 9).map caD1 := ⟨_, rfl⟩
  rw [← hLT] at hLO hLl hM
  rw [← hCT] at hCO hCl hM HCN
  rw [← hDT] at hDO hDl hM
  clear hLT hCT hDT
  have HM := Lib.hid hM; clear hM
  have HX1 := Lib.hid hx1'
  have HCB := Lib.hid hcb
  clear hcb hx1 hx1'
  go_upto_region 3 with (first
    | (refine wpList_load_row (hgd := rfl) 64 (.tmp 3) rfl w.heap.size (by rfl) 64 _ _ _ HCB.out Tryz.underlying64 rfl (by kernel_rfl) ?_)
    | (go_at_call 16; (with_reducible refine HM.out.mono ?_); rintro e w2 ⟨vl, vc, vd, rfl, hx2, hr1, hr2, hr3⟩; obtain ⟨lb, lc, rfl⟩ := (SR.of_row (cs := Lt.cs) (fun _ => rfl) hr1 (by omega)).form; obtain ⟨cb, cc, rfl⟩ := (SR.of_row (cs := Cr.cs) (fun _ => rfl) hr2 (by omega)).form; obtain ⟨db, dc, rfl⟩ := (SR.of_row (cs := Dy.cs) (fun _ => rfl) hr3 (by omega)).form)
    | (refine wpList_store_row (hgd := rfl) 55 (.tmp 8) (.tmp 21) rfl w2.heap.size (by rfl) (tenC _ _) (by rfl) (tenC nilV nilV) 55 (heap_alloc_new w2 _) (by rfl) (by kernel_rfl) (ten_one _ _ (by rfl) (by rfl)) ?_))
  obtain ⟨W3, hW3⟩ : ∃ W3, W3 = (w2.alloc (.cells (tenC nilV nilV) 55)).setRow w2.heap.size (tenC (.slice lb LT.length lc) (.slice cb CT.length cc)) := ⟨_, rfl⟩
  have hT3 : W3.heap[w2.heap.size]? = some (.cells (tenC (.slice lb LT.length lc) (.slice cb CT.length cc)) 55) := by rw [hW3]; exact setRow_heap _ _ _ _ 55 _ (heap_alloc_new w2 _)
  have hx3 : Ext w2 W3 := by rw [hW3]; exact below_setRow (Ext.alloc (Ext.refl _) _) (Nat.le_refl _) _
  change Code.wp _ _ _ _ ((w2.alloc (.cells (tenC nilV nilV) 55)).setRow w2.heap.size (tenC (.slice lb LT.length lc) (.slice cb CT.length cc)))
  rw [← hW3]
  obtain ⟨pt, hpt⟩ : ∃ pt, pt = w2.heap.size := ⟨_, rfl⟩
  rw [← hpt] at hT3 ⊢
  have HX3 := Lib.hid ((HX1.out.trans hx2).trans hx3)
  have HR1 := Lib.hid (SR.of_row (cs := Lt.cs) (fun _ => rfl) (row_ext hr1 hx3) (by omega))
  have HR2 := Lib.hid (SR.of_row (cs := Cr.cs) (fun _ => rfl) (row_ext hr2 hx3) (by omega))
  have HR3 := Lib.hid (SR.of_row (cs := Dy.cs) (fun _ => rfl) (row_ext hr3 hx3) (by omega))
  have HT3 := Lib.hid hT3; have HLO := Lib.hid hLO; have HCO := Lib.hid hCO; have HDO := Lib.hid hDO
  clear hW3 hT3 hpt hx2 hx3 hr1 hr2 hr3 HX1 HCB HM hLO hCO hDO H0 H1 H2
  refine Rr.wp_region [(0, .y), (1, .y), (3, .y), (4, .y), (2, .z), (5, .z)] (fun _ => (.cells #[] 29, Rg.ptr)) (by kernel_rfl) (by kernel_rfl) ?_
  (refine Rr.wr_y (by simp only [List.getElem?_toArray, List.getElem?_cons_succ, List.getElem?_cons_zero]; rfl) (by rfl) ?_
   apply Exists.intro
   refine ⟨fun wz hw _ => ?_, ?_⟩
   · have hcz := hw.cells.1
     exact up_row (by rfl) ((hw.block _ (Rg.lt_of_heap HT3.out)).trans HT3.out) Tryz.underlying55 (by kernel_rfl)
   simp only [Act.put, List.setIfInBounds_toArray, List.set_cons_zero, List.set_cons_succ])
  (refine Rr.wr_y (by simp only [List.getElem?_toArray, List.getElem?_cons_succ, List.getElem?_cons_zero]; rfl) (by rfl) ?_
   apply Exists.intro
   refine ⟨fun wz hw _ => ?_, ?_⟩
   · have hcz := hw.cells.1
     go_simp
     (with_reducible exact Rg.up_value)
   simp only [Act.put, List.setIfInBounds_toArray, List.set_cons_zero, List.set_cons_succ])
  (refine Rr.wr_y (by simp only [List.getElem?_toArray, List.getElem?_cons_succ, List.getElem?_cons_zero]; rfl) (by rfl) ?_
   apply Exists.intro
   refine ⟨fun wz hw _ => ?_, ?_⟩
   · have hcz := hw.cells.1
     exact up_row (by rfl) ((hw.block _ (Rg.lt_of_heap HT3.out)).trans HT3.out) Tryz.underlying55 (by kernel_rfl)
   simp only [Act.put, List.setIfInBounds_toArray, List.set_cons_zero, List.set_cons_succ])
  (refine Rr.wr_y (by simp only [List.getElem?_toArray, List.getElem?_cons_succ, List.getElem?_cons_zero]; rfl) (by rfl) ?_
   apply Exists.intro
   refine ⟨fun wz hw _ => ?_, ?_⟩
   · have hcz := hw.cells.1
     go_simp
     (with_reducible exact Rg.up_value)
   simp only [Act.put, List.setIfInBounds_toArray, List.set_cons_zero, List.set_cons_succ])
  refine Rr.wr_z (NB W3.heap.size (newB LT CT DT)) (by simp only [List.getElem?_toArray, List.getElem?_cons_succ, List.getElem?_cons_zero]; rfl) (by rfl) (fun v w1 w2 h e => by first | exact Rd.ext e h | exact h.ext e) (fun wz hw hh => ?_) (fun u => ?_)
  · have hcz := hw.cells.1
    go_simp
    apply Rr.upR_enter
    (with_reducible refine (New_z W3.heap.size LT CT DT _ _ _ wz hw.size (HR1.out.ext hw) (HR2.out.ext hw) (HR3.out.ext hw) HLO.out HCO.out HDO.out (by omega)).mono ?_)
    rintro e w3 ⟨v3, rfl, hx3, hr3⟩
    exact ⟨v3, rfl, hx3, hr3⟩
  simp only [Act.put, List.setIfInBounds_toArray, List.set_cons_zero, List.set_cons_succ]
  refine Rr.wr_z (NR2 W3.heap.size (newB LT CT DT) u (lotsW LT) (crisW CT) (dutsW DT)) (by simp only [List.getElem?_toArray, List.getElem?_cons_succ, List.getElem?_cons_zero]; rfl) (by rfl) (fun v w1 w2 h e => by first | exact Rd.ext e h | exact h.ext e) (fun wz hw hh => ?_) (fun u => ?_)
  · have hcz := hw.cells.1
    go_simp
    apply Rr.upR_enter
    (with_reducible refine (refNew_z2 W3.heap.size _ _ LT CT DT _ _ _ wz (holds_head hh) hw.size (HR1.out.ext hw) (HR2.out.ext hw) (HR3.out.ext hw) HLO.out (by omega) (by omega) (by omega)).mono ?_)
    rintro e w3 ⟨v3, rfl, hx3, hr3⟩
    exact ⟨v3, rfl, hx3, hr3⟩
  simp only [Act.put, List.setIfInBounds_toArray, List.set_cons_zero, List.set_cons_succ]
  refine Rr.wr_nil ?_
  intro W6 hx6 hh
  obtain ⟨pb, F1, pr, F2, vl, vc, vd, hp1, hp2, hb1, hb2, hF1, hF2⟩ := hh _ List.mem_cons_self
  subst hp1 hp2
  simp only [List.length_cons, List.length_nil, List.drop_succ_cons, List.drop_zero, Nat.reduceAdd]
  have HX6 := Lib.hid (HX3.out.trans hx6)
  have HW6 : Hid (W2 w W6 pb (newB LT CT DT) pr vl vc vd (lotsW LT) (crisW CT) (dutsW DT) [] [] [] []) := Lib.hid ⟨F1, F2, hb1, hb2, fun k hk => ⟨Nat.le_trans HX3.out.size (hF1 k hk).1, (hF1 k hk).2⟩, fun k hk => Nat.le_trans HX3.out.size (hF2 k hk), fun k hk => (by cases hk), HX6.out⟩
  have HR4 := Lib.hid (HR3.out.ext hx6)
  have HSX := Lib.hid (SimX.start LT CT DT)
  clear hh hb1 hb2 hF1 hF2 hx6 HR1 HR2 HR3 HT3 HX3
  go_upto_region 4 with (fail)
  by_cases hd0 : DT = []
  · have HF0 := Lib.hid (final_b (bid := 1) HW6.out ⟨by decide, by decide⟩)
    have he : finE (newB LT CT DT) 1 = 34 := by
      rw [(HSX.out.final 1).1]
      exact refF_34 (fun ⟨d, hd, _⟩ => by rw [mem_dutsW, hd0] at hd; cases hd)
    rw [he] at HF0
    clear he
    go_wp2_with (go_at_call 11; (with_reducible refine HF0.out.mono ?_); rintro e w7 ⟨rfl, hw7, -⟩)
    go_ret
    exact ⟨rfl, hw7.ex⟩
  · have hdp : 0 < DT.length := List.length_pos_iff.2 hd0
    have hdz : ¬ (DT.length : Int) = 0 := by omega
    obtain ⟨ii, hii⟩ : ∃ ii : Nat, q % (DT.length : Int) = (ii : Int) := ⟨(q % (DT.length : Int)).toNat, by have := Int.emod_nonneg q (b := (DT.length : Int)) (by omega); omega⟩
    have hmod : q.tmod (DT.length : Int) = (ii : Int) := by rw [Int.tmod_eq_emod_of_nonneg hq.1]; exact hii
    have hil : ii < DT.length := by have := Int.emod_lt_of_pos q (b := (DT.length : Int)) (by omega); omega
    obtain ⟨hq0, hq1⟩ := hq
    clear hii
    obtain ⟨bd, rfl, hcell⟩ := row_at HR4.out ii hil
    have r1 := hcell 1 _ rfl
    have hbl := World.block_lt_of_cell? W6 _ r1
    have HOB := Lib.hid (HDO.out _ (List.getElem_mem hil)).2
    have HHAS : Hid (hasR (dutsW DT) DT[ii].bid) := Lib.hid ⟨_, mem_dutsW.2 (List.getElem_mem hil), rfl⟩
    clear hcell
    generalize DT[ii].bid = bid at *
    have hDz : (DT.length : Int) ≤ 9 := by omega
    go_upto_region 7 with (fail)
    obtain ⟨hLo, hLl2⟩ := lotsW_ok HLO.out
    obtain ⟨hCo, hCl2⟩ := crisW_ok HCO.out
    obtain ⟨hDo, hDl2⟩ := dutsW_ok HDO.out
    have HWH := Lib.hid (Whole_any 0 pr (lotsW LT) (crisW CT) (dutsW DT) bid _ ns W6 HW6.out.rb (H3.out.ext HX6.out) (by omega) (by omega) (by omega) hLo hCo hDo HOB.out)
    have HWN := Lib.hid (wholeP_nodup (bid := bid) (dutsW_nodup DT) (lotsW_nodup LT) (crisW_nodup CT))
    have HLo := Lib.hid hLo; have HDo := Lib.hid (fun d hd => (hDo d hd).2)
    have hL3 : (lotsW LT).length ≤ 3 := by omega
    have hC4 : (crisW CT).length ≤ 4 := by omega
    have hD9 : (dutsW DT).length ≤ 9 := by omega
    clear r1 hbl hLo hCo hDo hLl2 hCl2 hDl2 HLO HCO HDO HR4
    generalize lotsW LT = L at *
    generalize crisW CT = C at *
    generalize dutsW DT = D at *
    generalize newB LT CT DT = b0 at *
    go_upto_region 9 with (go_at_call 23; (with_reducible refine HWH.out.mono ?_); rintro e w5 ⟨rv, gs, rfl, hrow5, hwi, hgl, hx5⟩; obtain ⟨rb, rc, rfl⟩ := (SR.of_row (cs := Gd.cs) gd_len hrow5 (by omega)).form)
    have HGL := Lib.hid hgl
    have hglz : (gs.length : Int) ≤ 108 := by omega
    have HWI := Lib.hid hwi
    have HROW := Lib.hid (row_base hrow5 (Nat.zero_le _))
    have hos : W2 w w5 pb b0 pr vl vc vd L C D [] [] [] (Value.slice rb gs.length rc).ownBlock.toList := by
      cases hob : (Value.slice rb gs.length rc).ownBlock with
      | none => exact HW6.out.ext hx5
      | some k => exact HW6.out.more hx5 (hrow5.lt k hob).1 (hrow5.lt k hob).2
    have HOS := Lib.hid hos
    have HOK : Hid (∀ g ∈ gs, g.ok ∧ g.name.size ≤ 1000) := Lib.hid fun g hg => ⟨(hwi.2 g hg).1, by
      obtain ⟨c, hc, hcn, -⟩ := (hwi.2 g hg).2
      rw [← hcn]
      exact HCN.out c hc⟩
    have HND : Hid ((gs.map Gd.pl).Nodup) := Lib.hid (by rw [hwi.1]; exact HWN.out)
    have HAT : Hid (∀ g ∈ gs, g.bid = bid ∧ g.lot ∈ L ∧ (⟨g.ass, bid⟩ : Dy) ∈ D ∧ ∃ c ∈ C, c.name = g.name) := Lib.hid fun g hg => whole_at (p := g.pl) (by rw [← hwi.1]; exact List.mem_map.2 ⟨g, hg, rfl⟩)
    clear hrow5 hwi hgl hx5 hos HW6 HX6 HWH HWN HWI HCN H3
    go_loopw [53] (fun k wr => ∃ (i : Nat) (b : Bk) (G O : List Gd), k = .int .i64 i ∧ i ≤ gs.length ∧ W2 w wr pb b pr vl vc vd L C D G [] O (Value.slice rb gs.length rc).ownBlock.toList ∧ wr.ownsRow 0 23 6 (.slice rb gs.length rc) gs.length (gs.flatMap Gd.cs) ∧ Hid (SimX b L C D G [] O ∧ OkX G [] O ∧ G.length ≤ i ∧ O.length ≤ i ∧ ∀ x ∈ G, x ∈ gs.take i)) (fun k _ => gs.length - (iof k).toNat)
    case atStart => exact ⟨0, b0, [], [], rfl, Nat.zero_le _, HOS.out, HROW.out, Lib.hid ⟨HSX.out, OkX.nil, Nat.le_refl _, Nat.le_refl _, fun x hx => by cases hx⟩⟩
    case round =>
      obtain ⟨i, b1, G, O, rfl, hi, hw2, hrow, HI⟩ := hrel
      by_cases hil1 : i < gs.length
      · obtain ⟨qb, rfl, hcell⟩ := row_at (SR.of_row (cs := Gd.cs) gd_len hrow (by omega)) i hil1
        have c0 := hcell 0 _ rfl
        have c1 := hcell 1 _ rfl
        have c2 := hcell 2 _ rfl
        have c3 := hcell 3 _ rfl
        have c4 := hcell 4 _ rfl
        have c5 := hcell 5 _ rfl
        have HGO := Lib.hid (HOK.out _ (List.getElem_mem hil1))
        have HAP := Lib.hid (pl_apart HND.out i hil1)
        have HGA := Lib.hid (HAT.out _ (List.getElem_mem hil1))
        have HTK := Lib.hid (List.take_succ_eq_append_getElem hil1)
        clear hcell
        generalize gs[i] = g at *
        have hG0 : G.length < 10000 := by have := HI.out.2.2.1; have := HGL.out; omega
        have hO0 : O.length < 10000 := by have := HI.out.2.2.2.1; have := HGL.out; omega
        have HFEW : Hid (finE b1 bid = 24 ∧ finB b1 bid = b1) := Lib.hid (by
          have h := HI.out.1.final bid
          have h2 : refF L C D G [] bid = 24 := by
            refine refF_24 HHAS.out (by simp) ?_
            obtain ⟨a1, a2, a3, c, a4, a5⟩ := HGA.out
            refine ⟨_, a3, rfl, g.lot, a2, c, a4, fun x hx e => HAP.out x (HI.out.2.2.2.2 x hx) (e.trans ?_)⟩
            unfold Gd.pl
            rw [a1, a5]
          have h3 : finE b1 bid = 24 := h.1.trans h2
          exact ⟨h3, finB_ne (by rw [h3]; decide)⟩)
        have HE := Lib.hid (refE_open (N := []) HGA.out.2.1 (by rw [HGA.out.1]; exact HGA.out.2.2.1) HGA.out.2.2.2 (by simp))
        have HSG := Lib.hid (HI.out.1.give g)
        have HOG := Lib.hid (HI.out.2.1.give (L := L) (C := C) (D := D) HGO.out)
        have HLG := Lib.hid (refB_len (L := L) (C := C) (D := D) (G := G) (N := []) (O := O) g)
        have HMG : Hid (∀ x ∈ (refB L C D G [] O g).1, x ∈ gs.take (i + 1)) := Lib.hid fun x hx => by
          rw [HTK.out]
          unfold refB at hx
          split at hx
          · rcases refG_mem x hx with hx | rfl
            · exact List.mem_append_left _ (HI.out.2.2.2.2 x hx)
            · exact List.mem_append_right _ List.mem_cons_self
          · exact List.mem_append_left _ (HI.out.2.2.2.2 x hx)
        obtain ⟨ga, gb, gl, gn, gN, gt⟩ := g
        simp only [Nat.add_zero] at c0 c1 c2 c3 c4 c5
        go_upto_region 11 with (fail)
        have hxa : Ext wr (wr.alloc (.cells #[.int .i64 ga, .int .i64 gb, .int .i64 gl, .string gn, .int .i64 gN, .int .i64 gt] 23)) := Ext.alloc (Ext.refl _) _
        have hq := heap_alloc_new wr (.cells #[.int .i64 ga, .int .i64 gb, .int .i64 gl, .string gn, .int .i64 gN, .int .i64 gt] 23)
        have hw6 := hw2.more hxa (Nat.le_refl _) (Rg.lt_of_heap hq)
        have hrow6 := row_ext hrow hxa
        obtain ⟨qv, hqv⟩ : ∃ qv, qv = wr.heap.size := ⟨_, rfl⟩
        rw [← hqv] at hq hw6 ⊢
        clear c0 c1 c2 c3 c4 c5 hw2 hrow hxa hqv
        generalize wr.alloc (.cells #[.int .i64 ga, .int .i64 gb, .int .i64 gl, .string gn, .int .i64 gN, .int .i64 gt] 23) = w6 at *
        obtain ⟨g0, g1, g2, g3, g4, g5, gl0⟩ := gcells hq
        have HQ := Lib.hid hq; have HR6 := Lib.hid hrow6
        have HG21 := Lib.hid (give_r (g := ⟨ga, gb, gl, gn, gN, gt⟩) hw6 HGO.out.1 (by omega) (by omega) (by omega) hG0 (by simp) hO0 HLo.out (by simp))
        simp only [Gd.v] at HG21
        clear hq hrow6 hw6
        obtain ⟨ge, hge⟩ : ∃ ge, ge = refE L C D [] ⟨ga, gb, gl, gn, gN, gt⟩ := ⟨_, rfl⟩
        obtain ⟨gs1, hgs1⟩ : ∃ gs1, gs1 = refB L C D G [] O ⟨ga, gb, gl, gn, gN, gt⟩ := ⟨_, rfl⟩
        rw [← hge] at HG21 HE HSG
        rw [← hgs1] at HG21 HSG HOG HLG HMG
        clear hge hgs1
        have hob1 : b1.old.length < 100000 := by rw [HI.out.1.old]; omega
        go_upto_region 12 with (go_at_call 21; (with_reducible refine HG21.out.mono ?_); rintro e w7 ⟨rfl, hw7, hk7⟩)
        have HQ7 := Lib.hid ((hk7 qv List.mem_cons_self).trans HQ.out)
        have HR7 := Lib.hid (row_of_block HR6.out (fun k hk => hk7 k (List.mem_cons_of_mem _ (by rw [hk]; exact List.mem_cons_self))))
        have HF11 := Lib.hid (final_b (bid := bid) hw7 HOB.out)
        rw [HFEW.out.1, HFEW.out.2] at HF11
        clear g0 g1 g2 g3 g4 g5 gl0 hw7 hk7 HG21 HQ HR6
        have HB1 : Hid (∀ w8, W2 w w8 pb b1 pr vl vc vd L C D gs1.1 [] gs1.2 (qv :: (Value.slice (some ⟨qb, 0, none⟩) gs.length rc).ownBlock.toList) → Calls Tryz.prog 10 #[.pointer (some ⟨pb, 0, none⟩), (Gd.v ⟨ga, gb, gl, gn, gN, gt⟩)] w8 fun e w' => e = .returned (.int .i64 ge) ∧ W2 w w' pb (giveR b1 ⟨ga, gb, gl, gn, gN, gt⟩).2 pr vl vc vd L C D gs1.1 [] gs1.2 (qv :: (Value.slice (some ⟨qb, 0, none⟩) gs.length rc).ownBlock.toList) ∧ ∀ k ∈ (qv :: (Value.slice (some ⟨qb, 0, none⟩) gs.length rc).ownBlock.toList), w'.heap[k]? = w8.heap[k]?) := Lib.hid fun w8 hw8 => by
          have h := give_b (g := ⟨ga, gb, gl, gn, gN, gt⟩) hw8 HGO.out.1 hob1
          rw [HSG.out.1] at h
          exact h
        simp only [Gd.v] at HB1
        have HSG2 := Lib.hid HSG.out.2
        clear HSG
        generalize (giveR b1 ⟨ga, gb, gl, gn, gN, gt⟩).2 = b2 at *
        rcases HE.out with h | h
        · subst h
          go_upto_region 14 with (first
            | (go_at_call 11; (with_reducible refine HF11.out.mono ?_); rintro e w8 ⟨rfl, hw8, hk8⟩; have HK8 := Lib.hid hk8; have HW8 := Lib.hid hw8; have hq8 := (hk8 qv List.mem_cons_self).trans HQ7.out; obtain ⟨g0, g1, g2, g3, g4, g5, gl0⟩ := gcells hq8; clear hq8 hw8 hk8)
            | (go_at_call 10; (with_reducible refine (HB1.out w8 HW8.out).mono ?_); rintro e w9 ⟨rfl, hw9, hk9⟩))
          have HW9 := Lib.hid (hw9.few (os' := (Value.slice (some ⟨qb, 0, none⟩) gs.length rc).ownBlock.toList) (fun k hk => List.mem_cons_of_mem _ hk))
          have HR9 := Lib.hid (row_of_block (row_of_block HR7.out (fun k hk => HK8.out k (List.mem_cons_of_mem _ (by rw [hk]; exact List.mem_cons_self)))) (fun k hk => hk9 k (List.mem_cons_of_mem _ (by rw [hk]; exact List.mem_cons_self))))
          have HNI : Hid (SimX b2 L C D gs1.1 [] gs1.2 ∧ OkX gs1.1 [] gs1.2 ∧ gs1.1.length ≤ i + 1 ∧ gs1.2.length ≤ i + 1 ∧ ∀ x ∈ gs1.1, x ∈ gs.take (i + 1)) := Lib.hid ⟨HSG2.out, HOG.out, by have := HLG.out.1; have := HI.out.2.2.1; omega, by have := HLG.out.2; have := HI.out.2.2.2.1; omega, HMG.out⟩
          clear hw9 hk9 g0 g1 g2 g3 g4 g5 gl0
          go_wp2_with (fail)
          exact ⟨⟨i + 1, b2, gs1.1, gs1.2, by simp, by omega, HW9.out, HR9.out, HNI⟩, by simp [iof]; omega⟩
        · subst h
          go_upto_region 14 with (first
            | (go_at_call 11; (with_reducible refine HF11.out.mono ?_); rintro e w8 ⟨rfl, hw8, hk8⟩; have HK8 := Lib.hid hk8; have HW8 := Lib.hid hw8; have hq8 := (hk8 qv List.mem_cons_self).trans HQ7.out; obtain ⟨g0, g1, g2, g3, g4, g5, gl0⟩ := gcells hq8; clear hq8 hw8 hk8)
            | (go_at_call 10; (with_reducible refine (HB1.out w8 HW8.out).mono ?_); rintro e w9 ⟨rfl, hw9, hk9⟩))
          have HX9 := Lib.hid hw9.ex
          clear hw9 hk9 g0 g1 g2 g3 g4 g5 gl0
          go_wp2_with (fail)
          go_ret
          exact ⟨rfl, HX9.out⟩
      · obtain rfl : i = gs.length := by omega
        have hG1 : G.length ≤ 10000 := by have := HI.out.2.2.1; have := HGL.out; omega
        have hO1 : O.length ≤ 10000 := by have := HI.out.2.2.2.1; have := HGL.out; omega
        have HSF := Lib.hid (HI.out.1.final bid)
        have HOF := Lib.hid (HI.out.2.1.final (L := L) (C := C) (D := D) HOB.out)
        have hNF := refN_len (L := L) (C := C) (D := D) (G := G) (N := []) bid
        have HF11 := Lib.hid (final_b (bid := bid) (hw2.few (os' := []) (fun k hk => by cases hk)) HOB.out)
        rw [HSF.out.1] at HF11
        have HSF2 := Lib.hid HSF.out.2
        have HFR := Lib.hid (fun w8 (b' : Bk) (hw8 : W2 w w8 pb b' pr vl vc vd L C D G [] O []) => final_r (bid := bid) hw8 (by omega) (by omega) (by omega) hG1 (by simp) HLo.out (by simp))
        have HSB := Lib.hid (fun w8 (b' : Bk) (N : List Int) (hN : N.length ≤ 1) (hw8 : W2 w w8 pb b' pr vl vc vd L C D G N O []) (hs : SimX b' L C D G N O) (ho : OkX G N O) => same_b hw8 HTB.out hs ho HLo.out HDo.out (by omega) (by omega) (by omega) hG1 (by omega) hO1)
        clear HSF hw2 hrow
        generalize finB b1 bid = b2 at *
        generalize refN L C D G [] bid = N at *
        generalize refF L C D G [] bid = fe at *
        go_wp2_with (first
          | (go_at_call 11; (with_reducible refine HF11.out.mono ?_); rintro e w8 ⟨rfl, hw8, -⟩; have HW8 := Lib.hid hw8; clear hw8)
          | (go_at_call 20; (with_reducible refine (HFR.out w8 b2 HW8.out).mono ?_); rintro e w9 ⟨rfl, hw9, -⟩; have HW9 := Lib.hid hw9; clear hw9)
          | (go_at_call 22; (with_reducible refine (HSB.out w9 b2 N (by simpa using hNF) HW9.out HSF2.out HOF.out).mono ?_); rintro e wA ⟨rfl, hxA⟩))
        go_ret
        exact ⟨rfl, hxA⟩
end Go.Proofs.YtnplnfkmcfalhaaGreatDoor
