/-
  Give answers as its plain function does. Conditions: what the book holds; the grade's parts are ints and a string of the machine.
-/
import Derived.Test.YtnplnfkmcfalhaaGreatDoorGdU
import Derived.Laws.Tables
namespace Go.Proofs.YtnplnfkmcfalhaaGreatDoor
set_option linter.unusedVariables false
set_option linter.unusedSimpArgs false
open Go.RowKit

theorem giveR_none {b : Bk} {g : Gd} (h : b.crit g.name = none) : giveR b g = (34, b) := by unfold giveR; rw [h]
theorem giveR_some {b : Bk} {g : Gd} {c : Cr} (h : b.crit g.name = some c) : giveR b g = if b.lots g.lot = false then (34, b) else if b.dut ⟨g.ass, g.bid⟩ = false then (35, b) else if g.n < c.low ∨ c.high < g.n then (16, b) else if b.fin g.bid = true then (31, b) else (0, b.put g) := by unfold giveR; rw [h]

set_option maxRecDepth 100000 in
set_option maxHeartbeats 4000000 in
theorem Give_any (p : Nat) (b : Bk) (F : List Nat) (g : Gd) (hg : g.ok) (w : World) (h : BR w p b F) (hol : b.old.length < 100000) :
    Calls Tryz.prog 10 #[.pointer (some ⟨p, 0, none⟩), g.v] w fun e w' => e = .returned (.int .i64 (giveR b g).1) ∧ GP F w p (giveR b g).2 w' := by
  have HB := Lib.hid h
  obtain ⟨ml, mc, md, mg, mf, cv, hp, hF, hnd, h1, h2, h3, h4, h5, h6, h7⟩ := h
  have HP : Hid (∀ W, Ext w W → W.heap[p]? = some (.cells #[.map ml, .map mc, .map md, .map mg, .map mf, cv] 40)) := Lib.hid fun W hW => (hW.block _ (Rg.lt_of_heap hp)).trans hp
  have H1 : Hid (∀ W, Ext w W → ∀ x, OkI x → (Instr.lookup 35 (.map ml) (.int .i64 x) false).run Tryz.prog W = .ok (.bool (b.lots x)) W) := Lib.hid fun W hW x hx => by
    have := (h1.of_block (fun k hk => hW.block k (h1.lt k hk))).look keI Tryz.underlying35 (z := .bool false) (by rfl) hx false
    simpa only [boolF_get, Bool.false_eq_true, if_false] using this
  have H2 : Hid (∀ W, Ext w W → ∀ x, OkS x → (Instr.lookup 36 (.map mc) (.string x) true).run Tryz.prog W = .ok (.tuple #[((b.crit x).map Cr.v).getD (.agg #[.string ⟨#[]⟩, .int .i64 0, .int .i64 0, .int .i64 0, .bool false]), .bool (b.crit x).isSome]) W) := Lib.hid fun W hW x hx => by
    have := (h2.of_block (fun k hk => hW.block k (h2.lt k hk))).look keS Tryz.underlying36 (z := .agg #[.string ⟨#[]⟩, .int .i64 0, .int .i64 0, .int .i64 0, .bool false]) (by rfl) hx true
    simpa using this
  have H3 : Hid (∀ W, Ext w W → ∀ x : Dy, OkD x → (Instr.lookup 37 (.map md) (encD x) false).run Tryz.prog W = .ok (.bool (b.dut x)) W) := Lib.hid fun W hW x hx => by
    have := (h3.of_block (fun k hk => hW.block k (h3.lt k hk))).look keD Tryz.underlying37 (z := .bool false) (by rfl) hx false
    simpa only [boolF_get, Bool.false_eq_true, if_false] using this
  have H5 : Hid (∀ W, Ext w W → ∀ x, OkI x → (Instr.lookup 35 (.map mf) (.int .i64 x) false).run Tryz.prog W = .ok (.bool (b.fin x)) W) := Lib.hid fun W hW x hx => by
    have := (h5.of_block (fun k hk => hW.block k (h5.lt k hk))).look keI Tryz.underlying35 (z := .bool false) (by rfl) hx false
    simpa only [boolF_get, Bool.false_eq_true, if_false] using this
  have HMG := Lib.hid h4; have HCV := Lib.hid h6; have HREST := Lib.hid (And.intro hF (And.intro hnd (And.intro h1 (And.intro h2 (And.intro h3 (And.intro h5 h7))))))
  have HG := Lib.hid hg
  have hlt := Rg.lt_of_heap hp
  clear hp hF hnd h1 h2 h3 h4 h5 h6 h7 hg
  obtain ⟨ga, gb, gl, gn, gN, gt⟩ := g
  simp only [Gd.v]
  go_enter Tryz.func10, Tryz.ntmps10
  go_upto_region 3 with (fail)
  have hxa : Ext w (w.alloc (.cells #[.int .i64 ga, .int .i64 gb, .int .i64 gl, .string gn, .int .i64 gN, .int .i64 gt] 23)) := Ext.alloc (Ext.refl _) _
  have hpg := heap_alloc_new w (.cells #[.int .i64 ga, .int .i64 gb, .int .i64 gl, .string gn, .int .i64 gN, .int .i64 gt] 23)
  generalize w.alloc (.cells #[.int .i64 ga, .int .i64 gb, .int .i64 gl, .string gn, .int .i64 gN, .int .i64 gt] 23) = w1 at *
  have HPGE : Hid (∀ W, Ext w1 W → W.heap[w.heap.size]? = _) := Lib.hid fun W hW => (hW.block _ (Rg.lt_of_heap hpg)).trans hpg
  have lpg := Rg.lt_of_heap hpg
  obtain ⟨pg, hpgE⟩ : ∃ pg, pg = w.heap.size := ⟨_, rfl⟩
  rw [← hpgE] at HPGE hpg lpg ⊢
  have HPS := Lib.hid hpgE; clear hpgE
  have c1 := cell_of_row w1 p 1 _ _ _ (HP.out w1 hxa)
  have cg3 := cell_of_row w1 pg 3 _ _ _ hpg
  have lp1 : p < w1.heap.size := by have := hxa.size; omega
  have hL2 := fun wz (hw : Ext w1 wz) => H2.out wz (hxa.trans hw) gn HG.out.2.2.2.1
  obtain ⟨c, kn, hcv, hkn, hck⟩ : ∃ (c : Cr) (kn : Bool), ((b.crit gn).map Cr.v).getD (.agg #[.string ⟨#[]⟩, .int .i64 0, .int .i64 0, .int .i64 0, .bool false]) = c.v ∧ (b.crit gn).isSome = kn ∧ ((kn = false ∧ b.crit gn = none) ∨ (kn = true ∧ b.crit gn = some c)) := by
    cases hc : b.crit gn with
    | none => exact ⟨⟨⟨#[]⟩, 0, 0, 0, false⟩, false, rfl, rfl, .inl ⟨rfl, rfl⟩⟩
    | some c => exact ⟨c, true, rfl, rfl, .inr ⟨rfl, rfl⟩⟩
  rw [hcv, hkn] at hL2
  have HCK := Lib.hid hck
  clear hcv hkn hck
  obtain ⟨cn, ck, cl, ch, cb⟩ := c
  simp only [Cr.v] at hL2
  refine Rr.wp_regionE [9] [(0, .y), (1, .y), (2, .y), (3, .y), (4, .y), (5, .y), (6, .y), (7, .y), (8, .y), (9, .y), (10, .m)] (fun _ => (.cells #[.string ⟨#[]⟩, .int .i64 0, .int .i64 0, .int .i64 0, .bool false] 73, Rg.ptr)) (fun c a d v w h => by have h' : _ ∧ _ := h; exact ⟨(Rr.put_defers a d v).symm.trans h'.1, h'.2⟩) (by kernel_rfl) (by kernel_rfl) ?_
  (refine Rr.wr_y (by simp only [List.getElem?_toArray, List.getElem?_cons_succ, List.getElem?_cons_zero]; rfl) (by rfl) ?_
   apply Exists.intro
   refine ⟨fun wz hw _ => ?_, ?_⟩
   · have hcz := hw.cells.1
     go_simp
     (with_reducible exact Rg.up_value)
   simp only [Act.put, List.setIfInBounds_toArray, List.set_cons_zero, List.set_cons_succ])
  (refine Rr.wr_y (by simp only [List.getElem?_toArray, List.getElem?_cons_succ, List.getElem?_cons_zero]; rfl) (by rfl) ?_
   apply Exists.intro
   refine ⟨fun wz hw _ => ?_, ?_⟩
   · have hcz := hw.cells.1
     go_simp
     (with_reducible exact Rg.up_value)
   simp only [Act.put, List.setIfInBounds_toArray, List.set_cons_zero, List.set_cons_succ])
  (refine Rr.wr_y (by simp only [List.getElem?_toArray, List.getElem?_cons_succ, List.getElem?_cons_zero]; rfl) (by rfl) ?_
   apply Exists.intro
   refine ⟨fun wz hw _ => ?_, ?_⟩
   · have hcz := hw.cells.1
     go_simp
     (with_reducible exact Rg.up_value)
   simp only [Act.put, List.setIfInBounds_toArray, List.set_cons_zero, List.set_cons_succ])
  (refine Rr.wr_y (by simp only [List.getElem?_toArray, List.getElem?_cons_succ, List.getElem?_cons_zero]; rfl) (by rfl) ?_
   apply Exists.intro
   refine ⟨fun wz hw _ => ?_, ?_⟩
   · have hcz := hw.cells.1
     go_simp
     (with_reducible exact Rg.up_value)
   simp only [Act.put, List.setIfInBounds_toArray, List.set_cons_zero, List.set_cons_succ])
  (refine Rr.wr_y (by simp only [List.getElem?_toArray, List.getElem?_cons_succ, List.getElem?_cons_zero]; rfl) (by rfl) ?_
   apply Exists.intro
   refine ⟨fun wz hw _ => ?_, ?_⟩
   · have hcz := hw.cells.1
     go_simp
     (with_reducible exact Rg.up_value)
   simp only [Act.put, List.setIfInBounds_toArray, List.set_cons_zero, List.set_cons_succ])
  (refine Rr.wr_y (by simp only [List.getElem?_toArray, List.getElem?_cons_succ, List.getElem?_cons_zero]; rfl) (by rfl) ?_
   apply Exists.intro
   refine ⟨fun wz hw _ => ?_, ?_⟩
   · have hcz := hw.cells.1
     go_simp
     (with_reducible exact Rg.up_value)
   simp only [Act.put, List.setIfInBounds_toArray, List.set_cons_zero, List.set_cons_succ])
  (refine Rr.wr_y (by simp only [List.getElem?_toArray, List.getElem?_cons_succ, List.getElem?_cons_zero]; rfl) (by rfl) ?_
   apply Exists.intro
   refine ⟨fun wz hw _ => ?_, ?_⟩
   · have hcz := hw.cells.1
     have hl := hL2 wz hw
     go_simp
     (with_reducible exact Rg.up_value)
   simp only [Act.put, List.setIfInBounds_toArray, List.set_cons_zero, List.set_cons_succ])
  (refine Rr.wr_y (by simp only [List.getElem?_toArray, List.getElem?_cons_succ, List.getElem?_cons_zero]; rfl) (by rfl) ?_
   apply Exists.intro
   refine ⟨fun wz hw _ => ?_, ?_⟩
   · have hcz := hw.cells.1
     go_simp
     (with_reducible exact Rg.up_value)
   simp only [Act.put, List.setIfInBounds_toArray, List.set_cons_zero, List.set_cons_succ])
  (refine Rr.wr_y (by simp only [List.getElem?_toArray, List.getElem?_cons_succ, List.getElem?_cons_zero]; rfl) (by rfl) ?_
   apply Exists.intro
   refine ⟨fun wz hw _ => ?_, ?_⟩
   · have hcz := hw.cells.1
     go_simp
     (with_reducible exact Rg.up_value)
   simp only [Act.put, List.setIfInBounds_toArray, List.set_cons_zero, List.set_cons_succ])
  (refine Rr.wr_y (by simp only [List.getElem?_toArray, List.getElem?_cons_succ, List.getElem?_cons_zero]; rfl) (by rfl) ?_
   apply Exists.intro
   refine ⟨fun wz hw _ => ?_, ?_⟩
   · have hcz := hw.cells.1
     go_simp
     (with_reducible exact Rg.up_value)
   simp only [Act.put, List.setIfInBounds_toArray, List.set_cons_zero, List.set_cons_succ])
  refine Rr.wr_m (by simp only [List.getElem?_toArray, List.getElem?_cons_succ, List.getElem?_cons_zero]; rfl) (by rfl) (fun wz => by go_simp) (fun pc hpc => ?_)
  simp only [Act.put, List.setIfInBounds_toArray, List.set_cons_zero, List.set_cons_succ]
  refine Rr.wr_nil ?_
  intro wy hy hh
  obtain ⟨hb1, hb2⟩ := hh _ List.mem_cons_self
  simp only [List.length_cons, List.length_nil, List.drop_succ_cons, List.drop_zero, Nat.reduceAdd]
  refine wpList_store_row (hgd := rfl) 73 (.tmp 5) (.tmp 19) rfl pc (by rfl) #[.string cn, .int .i64 ck, .int .i64 cl, .int .i64 ch, .bool cb] (by rfl) #[.string ⟨#[]⟩, .int .i64 0, .int .i64 0, .int .i64 0, .bool false] 73 hb2 (by rfl) (by kernel_rfl) (by simp [Value.oneCell']) ?_
  have hbc := setRow_heap wy pc _ #[.string cn, .int .i64 ck, .int .i64 cl, .int .i64 ch, .bool cb] 73 _ hb2
  have hxc : Ext w1 (wy.setRow pc #[.string cn, .int .i64 ck, .int .i64 cl, .int .i64 ch, .bool cb]) := below_setRow hy hb1 _
  clear hh hb2 hy hL2 c1 cg3 lp1
  generalize wy.setRow pc #[.string cn, .int .i64 ck, .int .i64 cl, .int .i64 ch, .bool cb] = W2 at *
  have hx2 : Ext w W2 := hxa.trans hxc
  have p2 := HPGE.out W2 hxc
  have b2 := HP.out W2 hx2
  go_upto_region 4 with (fail)
  have p0 := cell_of_row W2 p 0 _ _ _ b2
  have p1 := cell_of_row W2 p 2 _ _ _ b2
  have g0 := cell_of_row W2 pg 0 _ _ _ p2
  have g1 := cell_of_row W2 pg 1 _ _ _ p2
  have g2 := cell_of_row W2 pg 2 _ _ _ p2
  have r1 : ∀ n, (Instr.lookup 35 (.map ml) (.int .i64 gl) false).run Tryz.prog (W2.drewN n) = .ok (.bool (b.lots gl)) (W2.drewN n) := fun n => H1.out _ (Ext.drewN hx2 n) gl HG.out.2.2.1
  by_cases hl : b.lots gl = true
  · rw [hl] at r1
    have HL := Lib.hid hl; clear hl
    cases kn
    · go_quiet (fail)
      go_wp2_with (fail)
      have hr : giveR b ⟨ga, gb, gl, gn, gN, gt⟩ = (34, b) := by (rcases HCK.out with ⟨-, h⟩ | ⟨h, -⟩; exact giveR_none h; cases h)
      rw [hr]
      go_ret
      exact ⟨rfl, GP.same HB.out (Ext.drewN hx2 _)⟩
    · have HC : Hid (b.crit gn = some ⟨cn, ck, cl, ch, cb⟩) := Lib.hid (by rcases HCK.out with ⟨h, -⟩ | ⟨-, h⟩; cases h; exact h)
      have HGR := Lib.hid (giveR_some (g := ⟨ga, gb, gl, gn, gN, gt⟩) HC.out)
      clear HCK
      go_quiet (fail)
      go_upto_region 6 with (fail)
      have hx3 : Ext w (W2.drewN nq) := Ext.drewN hx2 _
      have p3 := HPGE.out (W2.drewN nq) (Ext.drewN hxc _)
      have e3 : (W2.drewN nq).heap[pc]? = _ := ((Ext.drewN (Ext.refl W2) nq).block pc (Rg.lt_of_heap hbc)).trans hbc
      have b3 := HP.out (W2.drewN nq) hx3
      have hy3 : Ext w1 (W2.drewN nq) := Ext.drewN hxc _
      clear p0 p1 g0 g1 g2 r1 b2 p2 hbc hx2 hxc
      generalize W2.drewN nq = W3 at *
      have p2 := cell_of_row W3 p 2 _ _ _ b3
      have g0 := cell_of_row W3 pg 0 _ _ _ p3
      have g1 := cell_of_row W3 pg 1 _ _ _ p3
      have r3 : ∀ n, (Instr.lookup 37 (.map md) (.agg #[.int .i64 ga, .int .i64 gb]) false).run Tryz.prog (W3.drewN n) = .ok (.bool (b.dut ⟨ga, gb⟩)) (W3.drewN n) := fun n => H3.out _ (Ext.drewN hx3 n) ⟨ga, gb⟩ ⟨HG.out.1, HG.out.2.1⟩
      by_cases hd : b.dut ⟨ga, gb⟩ = true
      · rw [hd] at r3
        have HD := Lib.hid hd; clear hd
        go_quiet (fail)
        go_upto_region 8 with (fail)
        have hx4 : Ext w (W3.drewN nq) := Ext.drewN hx3 _
        have p4 := HPGE.out (W3.drewN nq) (Ext.drewN hy3 _)
        have e4 : (W3.drewN nq).heap[pc]? = _ := ((Ext.drewN (Ext.refl W3) nq).block pc (Rg.lt_of_heap e3)).trans e3
        have b4 := HP.out (W3.drewN nq) hx4
        have hy4 : Ext w1 (W3.drewN nq) := Ext.drewN hy3 _
        clear p2 g0 g1 r3 b3 p3 e3 hx3 hy3
        generalize W3.drewN nq = W4 at *
        have g4 := cell_of_row W4 pg 4 _ _ _ p4
        have k2 := cell_of_row W4 pc 2 _ _ _ e4
        have k3 := cell_of_row W4 pc 3 _ _ _ e4
        by_cases hlo : gN < cl
        · have HLO := Lib.hid hlo
          go_wp2_with (fail)
          have hr : giveR b ⟨ga, gb, gl, gn, gN, gt⟩ = (16, b) := by (rw [HGR.out, if_neg (by rw [HL.out]; decide), if_neg (by rw [HD.out]; decide), if_pos (.inl HLO.out)])
          rw [hr]
          go_ret
          exact ⟨rfl, GP.same HB.out hx4⟩
        · by_cases hhi : ch < gN
          · have HHI := Lib.hid hhi
            go_wp2_with (fail)
            have hr : giveR b ⟨ga, gb, gl, gn, gN, gt⟩ = (16, b) := by (rw [HGR.out, if_neg (by rw [HL.out]; decide), if_neg (by rw [HD.out]; decide), if_pos (.inr HHI.out)])
            rw [hr]
            go_ret
            exact ⟨rfl, GP.same HB.out hx4⟩
          · have HNO : Hid (¬ (gN < cl ∨ ch < gN)) := Lib.hid (by rintro (h | h); exact hlo h; exact hhi h)
            go_upto_region 10 with (fail)
            clear g4 k2 k3 hlo hhi
            have p4' := cell_of_row W4 p 4 _ _ _ b4
            have g1 := cell_of_row W4 pg 1 _ _ _ p4
            have r5 : ∀ n, (Instr.lookup 35 (.map mf) (.int .i64 gb) false).run Tryz.prog (W4.drewN n) = .ok (.bool (b.fin gb)) (W4.drewN n) := fun n => H5.out _ (Ext.drewN hx4 n) gb HG.out.2.1
            by_cases hf : b.fin gb = true
            · rw [hf] at r5
              have HF := Lib.hid hf; clear hf
              go_quiet (fail)
              go_wp2_with (fail)
              have hr : giveR b ⟨ga, gb, gl, gn, gN, gt⟩ = (31, b) := by (rw [HGR.out, if_neg (by rw [HL.out]; decide), if_neg (by rw [HD.out]; decide), if_neg HNO.out, if_pos HF.out])
              rw [hr]
              go_ret
              exact ⟨rfl, GP.same HB.out (Ext.drewN hx4 _)⟩
            · have hf' : b.fin gb = false := by simpa using hf
              rw [hf'] at r5
              have HF := Lib.hid hf'; clear hf hf'
              have HRR : Hid (giveR b ⟨ga, gb, gl, gn, gN, gt⟩ = (0, b.put ⟨ga, gb, gl, gn, gN, gt⟩)) := Lib.hid (by rw [HGR.out, if_neg (by rw [HL.out]; decide), if_neg (by rw [HD.out]; decide), if_neg HNO.out, if_neg (by rw [HF.out]; decide)])
              go_quiet (fail)
              go_upto_region 12 with (fail)
              have hx5 : Ext w (W4.drewN nq) := Ext.drewN hx4 _
              have p5 := HPGE.out (W4.drewN nq) (Ext.drewN hy4 _)
              have b5 := HP.out (W4.drewN nq) hx5
              clear p4' g1 r5 b4 p4 e4 hx4 hy4 H1 H2 H3 H5 HGR
              generalize W4.drewN nq = W5 at *
              have hB5 : w.heap.size ≤ W5.heap.size := hx5.size
              have hne := run_eql_map_nil (P := Tryz.prog) W5 38 91 23 mg Tryz.underlying38
              have q3 := cell_of_row W5 p 3 _ _ _ b5
              obtain ⟨hF', hnd', h1', h2', h3', h5', h7'⟩ := HREST.out
              have HR7 := Lib.hid h7'; have HH1 := Lib.hid h1'; have HH2 := Lib.hid h2'; have HH3 := Lib.hid h3'; have HH5 := Lib.hid h5'; have HFF := Lib.hid hF'; have HND := Lib.hid hnd'
              have HPW := Lib.hid (HP.out w (Ext.refl _))
              clear hF' hnd' h1' h2' h3' h5' h7' HREST
              cases mg with
              | some bg =>
                obtain ⟨m, hm, hlk⟩ := HMG.out
                simp only [Option.isNone_some] at hne
                go_upto_region 14 with (fail)
                have HM6 := Lib.hid (hm.ext hx5)
                have HLK := Lib.hid hlk
                have HK6 : Hid (KF F w W5) := Lib.hid (KF.of hx5)
                have HS6 : Hid (∀ k, k < w.heap.size → k ≠ p → W5.heap[k]? = w.heap[k]?) := Lib.hid fun k hk _ => hx5.block k hk
                have HBG : Hid (BGd (some bg) bg w.heap.size) := Lib.hid (.inl rfl)
                have HCV6 := Lib.hid (row_ext HCV.out hx5)
                obtain ⟨W6, hW6⟩ : ∃ W6, W6 = W5 := ⟨_, rfl⟩
                have b6 := b5
                have p6 := p5
                clear hm hlk hne q3 hx5 b5 p5
                subst hW6
                have q3 := cell_of_row W6 p 3 _ _ _ b6
                have lp6 := Rg.lt_of_heap b6
                have hL4 : ∀ wz, Ext W6 wz → (Instr.lookup 38 (.map (some bg)) (.agg #[.int .i64 gb, .int .i64 gl, .string gn, .int .i64 ga]) true).run Tryz.prog wz = .ok (.tuple #[((b.gr ⟨gb, gl, gn, ga⟩).map Gd.v).getD (.agg #[.int .i64 0, .int .i64 0, .int .i64 0, .string ⟨#[]⟩, .int .i64 0, .int .i64 0]), .bool (b.gr ⟨gb, gl, gn, ga⟩).isSome]) wz := fun wz hz => by
                  have := (HM6.out.ext hz).look keP Tryz.underlying38 (z := .agg #[.int .i64 0, .int .i64 0, .int .i64 0, .string ⟨#[]⟩, .int .i64 0, .int .i64 0]) (by rfl) (x := ⟨gb, gl, gn, ga⟩) ⟨HG.out.2.1, HG.out.2.2.1, HG.out.2.2.2.1, HG.out.1⟩ true
                  rw [HLK.out] at this
                  simpa using this
                obtain ⟨o, th, hov, hth, hoc⟩ : ∃ (o : Gd) (th : Bool), ((b.gr ⟨gb, gl, gn, ga⟩).map Gd.v).getD (.agg #[.int .i64 0, .int .i64 0, .int .i64 0, .string ⟨#[]⟩, .int .i64 0, .int .i64 0]) = o.v ∧ (b.gr ⟨gb, gl, gn, ga⟩).isSome = th ∧ ((th = false ∧ b.gr ⟨gb, gl, gn, ga⟩ = none) ∨ (th = true ∧ b.gr ⟨gb, gl, gn, ga⟩ = some o)) := by
                  cases ho : b.gr ⟨gb, gl, gn, ga⟩ with
                  | none => exact ⟨⟨0, 0, 0, ⟨#[]⟩, 0, 0⟩, false, rfl, rfl, .inl ⟨rfl, rfl⟩⟩
                  | some o => exact ⟨o, true, rfl, rfl, .inr ⟨rfl, rfl⟩⟩
                rw [hov, hth] at hL4
                have HOC := Lib.hid hoc
                clear hov hth hoc
                obtain ⟨oa, ob, ol, on, oN, ot⟩ := o
                have hWh := fun wz => where_any ⟨ga, gb, gl, gn, gN, gt⟩ wz
                simp only [Gd.v, Gd.pl] at hL4 hWh
                refine Rr.wp_regionE [9] [(0, .y), (1, .y), (2, .y), (3, .y), (4, .y), (5, .y), (6, .y), (7, .y), (8, .y), (9, .y), (10, .m)] (fun _ => (.cells #[.int .i64 0, .int .i64 0, .int .i64 0, .string ⟨#[]⟩, .int .i64 0, .int .i64 0] 23, Rg.ptr)) (fun c a d v w h => by have h' : _ ∧ _ := h; exact ⟨(Rr.put_defers a d v).symm.trans h'.1, h'.2⟩) (by kernel_rfl) (by kernel_rfl) ?_
                (refine Rr.wr_y (by simp only [List.getElem?_toArray, List.getElem?_cons_succ, List.getElem?_cons_zero]; rfl) (by rfl) ?_
                 apply Exists.intro
                 refine ⟨fun wz hw _ => ?_, ?_⟩
                 · have hcz := hw.cells.1
                   go_simp
                   (with_reducible exact Rg.up_value)
                 simp only [Act.put, List.setIfInBounds_toArray, List.set_cons_zero, List.set_cons_succ])
                (refine Rr.wr_y (by simp only [List.getElem?_toArray, List.getElem?_cons_succ, List.getElem?_cons_zero]; rfl) (by rfl) ?_
                 apply Exists.intro
                 refine ⟨fun wz hw _ => ?_, ?_⟩
                 · have hcz := hw.cells.1
                   go_simp
                   (with_reducible exact Rg.up_value)
                 simp only [Act.put, List.setIfInBounds_toArray, List.set_cons_zero, List.set_cons_succ])
                (refine Rr.wr_y (by simp only [List.getElem?_toArray, List.getElem?_cons_succ, List.getElem?_cons_zero]; rfl) (by rfl) ?_
                 apply Exists.intro
                 refine ⟨fun wz hw _ => ?_, ?_⟩
                 · have hcz := hw.cells.1
                   go_simp
                   (with_reducible exact Rg.up_value)
                 simp only [Act.put, List.setIfInBounds_toArray, List.set_cons_zero, List.set_cons_succ])
                (refine Rr.wr_y (by simp only [List.getElem?_toArray, List.getElem?_cons_succ, List.getElem?_cons_zero]; rfl) (by rfl) ?_
                 apply Exists.intro
                 refine ⟨fun wz hw _ => ?_, ?_⟩
                 · have hcz := hw.cells.1
                   go_simp
                   (with_reducible exact Rg.up_value)
                 simp only [Act.put, List.setIfInBounds_toArray, List.set_cons_zero, List.set_cons_succ])
                (refine Rr.wr_y (by simp only [List.getElem?_toArray, List.getElem?_cons_succ, List.getElem?_cons_zero]; rfl) (by rfl) ?_
                 apply Exists.intro
                 refine ⟨fun wz hw _ => ?_, ?_⟩
                 · have hcz := hw.cells.1
                   exact up_row (by rfl) ((hw.block _ (Rg.lt_of_heap p6)).trans p6) Tryz.underlying23 (by kernel_rfl)
                 simp only [Act.put, List.setIfInBounds_toArray, List.set_cons_zero, List.set_cons_succ])
                (refine Rr.wr_y (by simp only [List.getElem?_toArray, List.getElem?_cons_succ, List.getElem?_cons_zero]; rfl) (by rfl) ?_
                 apply Exists.intro
                 refine ⟨fun wz hw _ => ?_, ?_⟩
                 · have hcz := hw.cells.1
                   go_simp
                   apply Rg.up_enter
                   (with_reducible refine (hWh _).mono ?_)
                   rintro e w3 ⟨rfl, hb3⟩
                   exact ⟨rfl, hb3⟩
                 simp only [Act.put, List.setIfInBounds_toArray, List.set_cons_zero, List.set_cons_succ])
                (refine Rr.wr_y (by simp only [List.getElem?_toArray, List.getElem?_cons_succ, List.getElem?_cons_zero]; rfl) (by rfl) ?_
                 apply Exists.intro
                 refine ⟨fun wz hw _ => ?_, ?_⟩
                 · have hcz := hw.cells.1
                   have hl := hL4 wz hw
                   go_simp
                   (with_reducible exact Rg.up_value)
                 simp only [Act.put, List.setIfInBounds_toArray, List.set_cons_zero, List.set_cons_succ])
                (refine Rr.wr_y (by simp only [List.getElem?_toArray, List.getElem?_cons_succ, List.getElem?_cons_zero]; rfl) (by rfl) ?_
                 apply Exists.intro
                 refine ⟨fun wz hw _ => ?_, ?_⟩
                 · have hcz := hw.cells.1
                   go_simp
                   (with_reducible exact Rg.up_value)
                 simp only [Act.put, List.setIfInBounds_toArray, List.set_cons_zero, List.set_cons_succ])
                (refine Rr.wr_y (by simp only [List.getElem?_toArray, List.getElem?_cons_succ, List.getElem?_cons_zero]; rfl) (by rfl) ?_
                 apply Exists.intro
                 refine ⟨fun wz hw _ => ?_, ?_⟩
                 · have hcz := hw.cells.1
                   go_simp
                   (with_reducible exact Rg.up_value)
                 simp only [Act.put, List.setIfInBounds_toArray, List.set_cons_zero, List.set_cons_succ])
                (refine Rr.wr_y (by simp only [List.getElem?_toArray, List.getElem?_cons_succ, List.getElem?_cons_zero]; rfl) (by rfl) ?_
                 apply Exists.intro
                 refine ⟨fun wz hw _ => ?_, ?_⟩
                 · have hcz := hw.cells.1
                   go_simp
                   (with_reducible exact Rg.up_value)
                 simp only [Act.put, List.setIfInBounds_toArray, List.set_cons_zero, List.set_cons_succ])
                refine Rr.wr_m (by simp only [List.getElem?_toArray, List.getElem?_cons_succ, List.getElem?_cons_zero]; rfl) (by rfl) (fun wz => by go_simp) (fun po hpo => ?_)
                simp only [Act.put, List.setIfInBounds_toArray, List.set_cons_zero, List.set_cons_succ]
                refine Rr.wr_nil ?_
                intro wy6 hy6 hh6
                obtain ⟨hb61, hb62⟩ := hh6 _ List.mem_cons_self
                simp only [List.length_cons, List.length_nil, List.drop_succ_cons, List.drop_zero, Nat.reduceAdd]
                refine wpList_store_row (hgd := rfl) 23 (.tmp 7) (.tmp 84) rfl po (by rfl) #[.int .i64 oa, .int .i64 ob, .int .i64 ol, .string on, .int .i64 oN, .int .i64 ot] (by rfl) #[.int .i64 0, .int .i64 0, .int .i64 0, .string ⟨#[]⟩, .int .i64 0, .int .i64 0] 23 hb62 (by rfl) (by kernel_rfl) (by simp [Value.oneCell']) ?_
                have hbo := setRow_heap wy6 po _ #[.int .i64 oa, .int .i64 ob, .int .i64 ol, .string on, .int .i64 oN, .int .i64 ot] 23 _ hb62
                have hx7 : Ext W6 (wy6.setRow po #[.int .i64 oa, .int .i64 ob, .int .i64 ol, .string on, .int .i64 oN, .int .i64 ot]) := below_setRow hy6 hb61 _
                clear hh6 hb62 hy6 hL4 q3 lp6
                generalize wy6.setRow po #[.int .i64 oa, .int .i64 ob, .int .i64 ol, .string on, .int .i64 oN, .int .i64 ot] = W7 at *
                have b7 := (hx7.block p (Rg.lt_of_heap b6)).trans b6
                have p7 := (hx7.block pg (Rg.lt_of_heap p6)).trans p6
                have HM7 := Lib.hid (HM6.out.ext hx7)
                have HCV7 := Lib.hid (row_ext HCV6.out hx7)
                have HS7 : Hid (∀ k, k < w.heap.size → k ≠ p → W7.heap[k]? = w.heap[k]?) := Lib.hid fun k hk hkp => (hx7.block k (by have := HK6.out.size; omega)).trans (HS6.out k hk hkp)
                have HK7 : Hid (KF F w W7) := Lib.hid (HK6.out.trans (KF.of (F := []) hx7) (by simp))
                clear hx7 b6 p6 HM6 HCV6 HS6 HK6
                have n7 := cell_of_row W7 po 4 _ _ _ hbo
                have n8 := cell_of_row W7 pg 4 _ _ _ p7
                cases th
                · skip
                  go_upto_region 17 with (fail)
                  have HR8 : Hid (W7.ownsRow 0 23 6 cv (b.put ⟨ga, gb, gl, gn, gN, gt⟩).old.length ((b.put ⟨ga, gb, gl, gn, gN, gt⟩).old.flatMap Gd.cs)) := Lib.hid (by
                    have he : (b.put ⟨ga, gb, gl, gn, gN, gt⟩).old = b.old := by
                      unfold Bk.put
                      simp only [Gd.pl]
                      rcases HOC.out with ⟨h0, h⟩ | ⟨h0, h⟩
                      · rw [h]; simp
                      · cases h0
                    rw [he]
                    exact HCV7.out)
                  obtain ⟨W8, hW8⟩ : ∃ W8, W8 = W7 := ⟨_, rfl⟩
                  obtain ⟨cw, hcw⟩ : ∃ cw, cw = cv := ⟨_, rfl⟩
                  have HCB : Hid (cw.ownBlock = cv.ownBlock ∨ ∃ q, cw.ownBlock = some q ∧ w.heap.size ≤ q) := Lib.hid (.inl (by rw [hcw]))
                  have HS8 : Hid (∀ k, k < w.heap.size → k ≠ p → some k ≠ cv.ownBlock → W8.heap[k]? = w.heap[k]?) := Lib.hid (by rw [hW8]; exact fun k hk hkp _ => HS7.out k hk hkp)
                  have HK8 : Hid (KF F w W8) := Lib.hid (by rw [hW8]; exact HK7.out)
                  have HM8 : Hid (MP encP OkP W8 bg m) := Lib.hid (by rw [hW8]; exact HM7.out)
                  have b8 : W8.heap[p]? = some (.cells #[.map ml, .map mc, .map md, .map (some bg), .map mf, cw] 40) := by rw [hW8, hcw]; exact b7
                  have p8 := p7
                  rw [← hcw] at HR8
                  rw [← hW8] at HR8 p8 ⊢
                  clear hW8 hcw HCV7 HS7 HK7 HM7 b7 p7 n7 n8 hbo
                  have q8 := cell_of_row W8 p 3 _ _ _ b8
                  have l8 := Rg.lt_of_heap b8
                  refine Rr.wp_region [(0, .y), (1, .y), (2, .y), (3, .y), (4, .y), (5, .y), (6, .y)] (fun _ => (.cells #[] 23, Rg.ptr)) (by kernel_rfl) (by kernel_rfl) ?_
                  (refine Rr.wr_y (by simp only [List.getElem?_toArray, List.getElem?_cons_succ, List.getElem?_cons_zero]; rfl) (by rfl) ?_
                   apply Exists.intro
                   refine ⟨fun wz hw _ => ?_, ?_⟩
                   · have hcz := hw.cells.1
                     go_simp
                     (with_reducible exact Rg.up_value)
                   simp only [Act.put, List.setIfInBounds_toArray, List.set_cons_zero, List.set_cons_succ])
                  (refine Rr.wr_y (by simp only [List.getElem?_toArray, List.getElem?_cons_succ, List.getElem?_cons_zero]; rfl) (by rfl) ?_
                   apply Exists.intro
                   refine ⟨fun wz hw _ => ?_, ?_⟩
                   · have hcz := hw.cells.1
                     go_simp
                     (with_reducible exact Rg.up_value)
                   simp only [Act.put, List.setIfInBounds_toArray, List.set_cons_zero, List.set_cons_succ])
                  (refine Rr.wr_y (by simp only [List.getElem?_toArray, List.getElem?_cons_succ, List.getElem?_cons_zero]; rfl) (by rfl) ?_
                   apply Exists.intro
                   refine ⟨fun wz hw _ => ?_, ?_⟩
                   · have hcz := hw.cells.1
                     go_simp
                     (with_reducible exact Rg.up_value)
                   simp only [Act.put, List.setIfInBounds_toArray, List.set_cons_zero, List.set_cons_succ])
                  (refine Rr.wr_y (by simp only [List.getElem?_toArray, List.getElem?_cons_succ, List.getElem?_cons_zero]; rfl) (by rfl) ?_
                   apply Exists.intro
                   refine ⟨fun wz hw _ => ?_, ?_⟩
                   · have hcz := hw.cells.1
                     go_simp
                     (with_reducible exact Rg.up_value)
                   simp only [Act.put, List.setIfInBounds_toArray, List.set_cons_zero, List.set_cons_succ])
                  (refine Rr.wr_y (by simp only [List.getElem?_toArray, List.getElem?_cons_succ, List.getElem?_cons_zero]; rfl) (by rfl) ?_
                   apply Exists.intro
                   refine ⟨fun wz hw _ => ?_, ?_⟩
                   · have hcz := hw.cells.1
                     exact up_row (by rfl) ((hw.block _ (Rg.lt_of_heap p8)).trans p8) Tryz.underlying23 (by kernel_rfl)
                   simp only [Act.put, List.setIfInBounds_toArray, List.set_cons_zero, List.set_cons_succ])
                  (refine Rr.wr_y (by simp only [List.getElem?_toArray, List.getElem?_cons_succ, List.getElem?_cons_zero]; rfl) (by rfl) ?_
                   apply Exists.intro
                   refine ⟨fun wz hw _ => ?_, ?_⟩
                   · have hcz := hw.cells.1
                     go_simp
                     apply Rg.up_enter
                     (with_reducible refine (hWh _).mono ?_)
                     rintro e w3 ⟨rfl, hb3⟩
                     exact ⟨rfl, hb3⟩
                   simp only [Act.put, List.setIfInBounds_toArray, List.set_cons_zero, List.set_cons_succ])
                  (refine Rr.wr_y (by simp only [List.getElem?_toArray, List.getElem?_cons_succ, List.getElem?_cons_zero]; rfl) (by rfl) ?_
                   apply Exists.intro
                   refine ⟨fun wz hw _ => ?_, ?_⟩
                   · have hcz := hw.cells.1
                     exact up_row (by rfl) ((hw.block _ (Rg.lt_of_heap p8)).trans p8) Tryz.underlying23 (by kernel_rfl)
                   simp only [Act.put, List.setIfInBounds_toArray, List.set_cons_zero, List.set_cons_succ])
                  refine Rr.wr_nil ?_
                  intro wz hz hhz
                  simp only [List.length_cons, List.length_nil, List.drop_succ_cons, List.drop_zero, Nat.reduceAdd]
                  refine wpList_store rfl (.tmp 107) (.tmp 109) (.tmp 110) 38 rfl 91 23 keP Tryz.underlying38 bg m (by rfl) (HM8.out.ext hz) ⟨gb, gl, gn, ga⟩ (by rfl) ⟨HG.out.2.1, HG.out.2.2.1, HG.out.2.2.2.1, HG.out.1⟩ (.agg #[.int .i64 ga, .int .i64 gb, .int .i64 gl, .string gn, .int .i64 gN, .int .i64 gt]) (by rfl) ?_
                  intro wf hmf hgf
                  have HMF := Lib.hid hmf; have HGF := Lib.hid hgf; have HZ := Lib.hid hz
                  clear hmf hgf hz hhz q8
                  go_wp2_with (fail)
                  go_ret
                  rw [HRR.out]
                  refine ⟨rfl, ?_⟩
                  have hkf : ∀ k, k < W8.heap.size → k ≠ bg → wf.heap[k]? = W8.heap[k]? := fun k hk hn => (HGF.out.block k (by have := HZ.out.size; omega) (fun e => hn (by injection e))).trans (HZ.out.block k hk)
                  have hw8 := HK8.out.size
                  have hbgp : bg ≠ p := fun e => by
                    obtain ⟨-, -, es, clock, hm0, -⟩ := HM8.out
                    rw [e, b8] at hm0
                    cases hm0
                  have hbl := HM8.out.lt
                  refine put_done HPW.out HFF.out HND.out HH1.out HH2.out HH3.out HH5.out HCV.out HR7.out HG.out HBG.out ((hkf p l8 (fun e => hbgp e.symm)).trans b8) ⟨_, HMF.out, fun k => ?_⟩ (row_of_block HR8.out (fun k hk => hkf k (HR8.out.lt k hk).2 (fun e => ?_))) HCB.out ⟨?_, ?_, ?_, ?_, fun k hk hn => ?_⟩ (fun k hk hkp hkm hkc => ?_)
                  · exact put_look (g := ⟨ga, gb, gl, gn, gN, gt⟩) HLK.out k
                  · obtain ⟨cs, hc⟩ := row_block HR8.out hk
                    obtain ⟨-, -, es, clock, hm0, -⟩ := HM8.out
                    rw [e, hm0] at hc
                    cases hc
                  · exact HGF.out.os.trans (HZ.out.os.trans HK8.out.os)
                  · exact HGF.out.tape.trans (HZ.out.tape.trans HK8.out.tape)
                  · exact HGF.out.output.trans (HZ.out.output.trans HK8.out.output)
                  · exact Nat.le_trans hw8 (Nat.le_trans HZ.out.size HGF.out.size)
                  · refine (hkf k (by omega) (fun e => hn ?_)).trans (HK8.out.block k hk hn)
                    rw [HFF.out, mem_blks, e]
                    exact .inr (.inr (.inr (.inr (.inl (HBG.out.old (by omega))))))
                  · refine (hkf k (by omega) (fun e => hkm ?_)).trans (HS8.out k hk hkp hkc)
                    exact (congrArg some e).trans (HBG.out.old (by omega)).symm
                · by_cases hN : oN = gN
                  · have HNE := Lib.hid hN
                    rw [hN] at n7
                    clear hN
                    go_upto_region 17 with (fail)
                    have HR8 : Hid (W7.ownsRow 0 23 6 cv (b.put ⟨ga, gb, gl, gn, gN, gt⟩).old.length ((b.put ⟨ga, gb, gl, gn, gN, gt⟩).old.flatMap Gd.cs)) := Lib.hid (by
                      have he : (b.put ⟨ga, gb, gl, gn, gN, gt⟩).old = b.old := by
                        unfold Bk.put
                        simp only [Gd.pl]
                        rcases HOC.out with ⟨h0, h⟩ | ⟨h0, h⟩
                        · rw [h]; simp
                        · (rw [h]; simp [HNE.out])
                      rw [he]
                      exact HCV7.out)
                    obtain ⟨W8, hW8⟩ : ∃ W8, W8 = W7 := ⟨_, rfl⟩
                    obtain ⟨cw, hcw⟩ : ∃ cw, cw = cv := ⟨_, rfl⟩
                    have HCB : Hid (cw.ownBlock = cv.ownBlock ∨ ∃ q, cw.ownBlock = some q ∧ w.heap.size ≤ q) := Lib.hid (.inl (by rw [hcw]))
                    have HS8 : Hid (∀ k, k < w.heap.size → k ≠ p → some k ≠ cv.ownBlock → W8.heap[k]? = w.heap[k]?) := Lib.hid (by rw [hW8]; exact fun k hk hkp _ => HS7.out k hk hkp)
                    have HK8 : Hid (KF F w W8) := Lib.hid (by rw [hW8]; exact HK7.out)
                    have HM8 : Hid (MP encP OkP W8 bg m) := Lib.hid (by rw [hW8]; exact HM7.out)
                    have b8 : W8.heap[p]? = some (.cells #[.map ml, .map mc, .map md, .map (some bg), .map mf, cw] 40) := by rw [hW8, hcw]; exact b7
                    have p8 := p7
                    rw [← hcw] at HR8
                    rw [← hW8] at HR8 p8 ⊢
                    clear hW8 hcw HCV7 HS7 HK7 HM7 b7 p7 n7 n8 hbo
                    have q8 := cell_of_row W8 p 3 _ _ _ b8
                    have l8 := Rg.lt_of_heap b8
                    refine Rr.wp_region [(0, .y), (1, .y), (2, .y), (3, .y), (4, .y), (5, .y), (6, .y)] (fun _ => (.cells #[] 23, Rg.ptr)) (by kernel_rfl) (by kernel_rfl) ?_
                    (refine Rr.wr_y (by simp only [List.getElem?_toArray, List.getElem?_cons_succ, List.getElem?_cons_zero]; rfl) (by rfl) ?_
                     apply Exists.intro
                     refine ⟨fun wz hw _ => ?_, ?_⟩
                     · have hcz := hw.cells.1
                       go_simp
                       (with_reducible exact Rg.up_value)
                     simp only [Act.put, List.setIfInBounds_toArray, List.set_cons_zero, List.set_cons_succ])
                    (refine Rr.wr_y (by simp only [List.getElem?_toArray, List.getElem?_cons_succ, List.getElem?_cons_zero]; rfl) (by rfl) ?_
                     apply Exists.intro
                     refine ⟨fun wz hw _ => ?_, ?_⟩
                     · have hcz := hw.cells.1
                       go_simp
                       (with_reducible exact Rg.up_value)
                     simp only [Act.put, List.setIfInBounds_toArray, List.set_cons_zero, List.set_cons_succ])
                    (refine Rr.wr_y (by simp only [List.getElem?_toArray, List.getElem?_cons_succ, List.getElem?_cons_zero]; rfl) (by rfl) ?_
                     apply Exists.intro
                     refine ⟨fun wz hw _ => ?_, ?_⟩
                     · have hcz := hw.cells.1
                       go_simp
                       (with_reducible exact Rg.up_value)
                     simp only [Act.put, List.setIfInBounds_toArray, List.set_cons_zero, List.set_cons_succ])
                    (refine Rr.wr_y (by simp only [List.getElem?_toArray, List.getElem?_cons_succ, List.getElem?_cons_zero]; rfl) (by rfl) ?_
                     apply Exists.intro
                     refine ⟨fun wz hw _ => ?_, ?_⟩
                     · have hcz := hw.cells.1
                       go_simp
                       (with_reducible exact Rg.up_value)
                     simp only [Act.put, List.setIfInBounds_toArray, List.set_cons_zero, List.set_cons_succ])
                    (refine Rr.wr_y (by simp only [List.getElem?_toArray, List.getElem?_cons_succ, List.getElem?_cons_zero]; rfl) (by rfl) ?_
                     apply Exists.intro
                     refine ⟨fun wz hw _ => ?_, ?_⟩
                     · have hcz := hw.cells.1
                       exact up_row (by rfl) ((hw.block _ (Rg.lt_of_heap p8)).trans p8) Tryz.underlying23 (by kernel_rfl)
                     simp only [Act.put, List.setIfInBounds_toArray, List.set_cons_zero, List.set_cons_succ])
                    (refine Rr.wr_y (by simp only [List.getElem?_toArray, List.getElem?_cons_succ, List.getElem?_cons_zero]; rfl) (by rfl) ?_
                     apply Exists.intro
                     refine ⟨fun wz hw _ => ?_, ?_⟩
                     · have hcz := hw.cells.1
                       go_simp
                       apply Rg.up_enter
                       (with_reducible refine (hWh _).mono ?_)
                       rintro e w3 ⟨rfl, hb3⟩
                       exact ⟨rfl, hb3⟩
                     simp only [Act.put, List.setIfInBounds_toArray, List.set_cons_zero, List.set_cons_succ])
                    (refine Rr.wr_y (by simp only [List.getElem?_toArray, List.getElem?_cons_succ, List.getElem?_cons_zero]; rfl) (by rfl) ?_
                     apply Exists.intro
                     refine ⟨fun wz hw _ => ?_, ?_⟩
                     · have hcz := hw.cells.1
                       exact up_row (by rfl) ((hw.block _ (Rg.lt_of_heap p8)).trans p8) Tryz.underlying23 (by kernel_rfl)
                     simp only [Act.put, List.setIfInBounds_toArray, List.set_cons_zero, List.set_cons_succ])
                    refine Rr.wr_nil ?_
                    intro wz hz hhz
                    simp only [List.length_cons, List.length_nil, List.drop_succ_cons, List.drop_zero, Nat.reduceAdd]
                    refine wpList_store rfl (.tmp 107) (.tmp 109) (.tmp 110) 38 rfl 91 23 keP Tryz.underlying38 bg m (by rfl) (HM8.out.ext hz) ⟨gb, gl, gn, ga⟩ (by rfl) ⟨HG.out.2.1, HG.out.2.2.1, HG.out.2.2.2.1, HG.out.1⟩ (.agg #[.int .i64 ga, .int .i64 gb, .int .i64 gl, .string gn, .int .i64 gN, .int .i64 gt]) (by rfl) ?_
                    intro wf hmf hgf
                    have HMF := Lib.hid hmf; have HGF := Lib.hid hgf; have HZ := Lib.hid hz
                    clear hmf hgf hz hhz q8
                    go_wp2_with (fail)
                    go_ret
                    rw [HRR.out]
                    refine ⟨rfl, ?_⟩
                    have hkf : ∀ k, k < W8.heap.size → k ≠ bg → wf.heap[k]? = W8.heap[k]? := fun k hk hn => (HGF.out.block k (by have := HZ.out.size; omega) (fun e => hn (by injection e))).trans (HZ.out.block k hk)
                    have hw8 := HK8.out.size
                    have hbgp : bg ≠ p := fun e => by
                      obtain ⟨-, -, es, clock, hm0, -⟩ := HM8.out
                      rw [e, b8] at hm0
                      cases hm0
                    have hbl := HM8.out.lt
                    refine put_done HPW.out HFF.out HND.out HH1.out HH2.out HH3.out HH5.out HCV.out HR7.out HG.out HBG.out ((hkf p l8 (fun e => hbgp e.symm)).trans b8) ⟨_, HMF.out, fun k => ?_⟩ (row_of_block HR8.out (fun k hk => hkf k (HR8.out.lt k hk).2 (fun e => ?_))) HCB.out ⟨?_, ?_, ?_, ?_, fun k hk hn => ?_⟩ (fun k hk hkp hkm hkc => ?_)
                    · exact put_look (g := ⟨ga, gb, gl, gn, gN, gt⟩) HLK.out k
                    · obtain ⟨cs, hc⟩ := row_block HR8.out hk
                      obtain ⟨-, -, es, clock, hm0, -⟩ := HM8.out
                      rw [e, hm0] at hc
                      cases hc
                    · exact HGF.out.os.trans (HZ.out.os.trans HK8.out.os)
                    · exact HGF.out.tape.trans (HZ.out.tape.trans HK8.out.tape)
                    · exact HGF.out.output.trans (HZ.out.output.trans HK8.out.output)
                    · exact Nat.le_trans hw8 (Nat.le_trans HZ.out.size HGF.out.size)
                    · refine (hkf k (by omega) (fun e => hn ?_)).trans (HK8.out.block k hk hn)
                      rw [HFF.out, mem_blks, e]
                      exact .inr (.inr (.inr (.inr (.inl (HBG.out.old (by omega))))))
                    · refine (hkf k (by omega) (fun e => hkm ?_)).trans (HS8.out k hk hkp hkc)
                      exact (congrArg some e).trans (HBG.out.old (by omega)).symm
                  · have HNE := Lib.hid hN
                    have HOO : Hid (b.gr ⟨gb, gl, gn, ga⟩ = some ⟨oa, ob, ol, on, oN, ot⟩) := Lib.hid (by rcases HOC.out with ⟨h, -⟩ | ⟨-, h⟩; cases h; exact h)
                    have l7 := Rg.lt_of_heap b7
                    have lo7 := Rg.lt_of_heap hbo
                    go_upto_region 16 with (fail)
                    have c5 := cell_of_row W7 p 5 _ _ _ b7
                    refine Rp.wp_regionTE [0] [(0, .y), (1, .y), (2, .y), (3, .y), (4, .y), (5, .y), (6, .m)] [7, 8, 9, 10] (fun _ => (.cells #[.int .i64 oa, .int .i64 ob, .int .i64 ol, .string on, .int .i64 oN, .int .i64 ot] 23, fun p => .slice (some ⟨p, 0, none⟩) 1 1)) (fun c a d v w h => by have h' : _ ∧ _ := h; exact ⟨(Rr.put_defers a d v).symm.trans h'.1, h'.2⟩) (by kernel_rfl) (by kernel_rfl) ?_
                    (refine Rr.wr_y (by simp only [List.getElem?_toArray, List.getElem?_cons_succ, List.getElem?_cons_zero]; rfl) (by rfl) ?_
                     apply Exists.intro
                     refine ⟨fun wz hw _ => ?_, ?_⟩
                     · have hcz := hw.cells.1
                       go_simp
                       (with_reducible exact Rg.up_value)
                     simp only [Act.put, List.setIfInBounds_toArray, List.set_cons_zero, List.set_cons_succ])
                    (refine Rr.wr_y (by simp only [List.getElem?_toArray, List.getElem?_cons_succ, List.getElem?_cons_zero]; rfl) (by rfl) ?_
                     apply Exists.intro
                     refine ⟨fun wz hw _ => ?_, ?_⟩
                     · have hcz := hw.cells.1
                       go_simp
                       (with_reducible exact Rg.up_value)
                     simp only [Act.put, List.setIfInBounds_toArray, List.set_cons_zero, List.set_cons_succ])
                    (refine Rr.wr_y (by simp only [List.getElem?_toArray, List.getElem?_cons_succ, List.getElem?_cons_zero]; rfl) (by rfl) ?_
                     apply Exists.intro
                     refine ⟨fun wz hw _ => ?_, ?_⟩
                     · have hcz := hw.cells.1
                       go_simp
                       (with_reducible exact Rg.up_value)
                     simp only [Act.put, List.setIfInBounds_toArray, List.set_cons_zero, List.set_cons_succ])
                    (refine Rr.wr_y (by simp only [List.getElem?_toArray, List.getElem?_cons_succ, List.getElem?_cons_zero]; rfl) (by rfl) ?_
                     apply Exists.intro
                     refine ⟨fun wz hw _ => ?_, ?_⟩
                     · have hcz := hw.cells.1
                       go_simp
                       (with_reducible exact Rg.up_value)
                     simp only [Act.put, List.setIfInBounds_toArray, List.set_cons_zero, List.set_cons_succ])
                    (refine Rr.wr_y (by simp only [List.getElem?_toArray, List.getElem?_cons_succ, List.getElem?_cons_zero]; rfl) (by rfl) ?_
                     apply Exists.intro
                     refine ⟨fun wz hw _ => ?_, ?_⟩
                     · have hcz := hw.cells.1
                       go_simp
                       (with_reducible exact Rg.up_value)
                     simp only [Act.put, List.setIfInBounds_toArray, List.set_cons_zero, List.set_cons_succ])
                    (refine Rr.wr_y (by simp only [List.getElem?_toArray, List.getElem?_cons_succ, List.getElem?_cons_zero]; rfl) (by rfl) ?_
                     apply Exists.intro
                     refine ⟨fun wz hw _ => ?_, ?_⟩
                     · have hcz := hw.cells.1
                       exact up_row (by rfl) ((hw.block _ (Rg.lt_of_heap hbo)).trans hbo) Tryz.underlying23 (by kernel_rfl)
                     simp only [Act.put, List.setIfInBounds_toArray, List.set_cons_zero, List.set_cons_succ])
                    refine Rr.wr_m (by simp only [List.getElem?_toArray, List.getElem?_cons_succ, List.getElem?_cons_zero]; rfl) (by rfl) (fun wz => by go_simp) (fun pn hpn => ?_)
                    simp only [Act.put, List.setIfInBounds_toArray, List.set_cons_zero, List.set_cons_succ]
                    refine Rr.wr_nil ?_
                    intro wy7 hy7 hh7
                    obtain ⟨hb71, hb72⟩ := hh7 _ List.mem_cons_self
                    simp only [List.filterMap_cons, List.filterMap_nil, List.getElem?_cons_succ, List.getElem?_cons_zero]
                    refine append_g (cs := Gd.cs) (z := .agg #[.int .i64 0, .int .i64 0, .int .i64 0, .string ⟨#[]⟩, .int .i64 0, .int .i64 0]) 32 23 56 Tryz.underlying32 (by kernel_rfl) (by rfl) (by decide) (by decide) rfl (.tmp 98) (.tmp 100) rfl 0 cv b.old (by rfl) (row_ext HCV7.out hy7) pn ⟨oa, ob, ol, on, oN, ot⟩ ⟨rfl, by simp [Gd.cs, Value.oneCell']⟩ (by rfl) hb72 ?_ (Nat.zero_le _) ?_
                    · omega
                    intro g9 cap9 w9 hr9 hg9 hat
                    have b9 : w9.heap[p]? = some (.cells #[.map ml, .map mc, .map md, .map (some bg), .map mf, cv] 40) := (hg9.block p (by have := hy7.size; omega) (fun e => by
                      obtain ⟨cs, hc⟩ := row_block (row_ext HCV7.out hy7) e.symm
                      rw [(hy7.block p l7).trans b7] at hc
                      cases hc)).trans ((hy7.block p l7).trans b7)
                    have q9 := cell_of_row w9 p 5 _ _ _ b9
                    have f9 : w9.frozen? ⟨p, 5, none⟩ = false := by simp [World.frozen?, b9]
                    have hgc : ∀ {B E sz n : Nat} {v : Value} {xs : List Value} {q : Nat}, wy7.ownsRow B E sz v n xs → v.ownBlock = some q → ∃ cs, wy7.heap[q]? = some (.cells cs E) := fun h hq => row_block h hq
                    have HB9 := Lib.hid b9; have HR9 := Lib.hid hr9; have HG9 := Lib.hid hg9; have HY7 := Lib.hid hy7
                    have HAT := Lib.hid hat
                    clear hr9 hg9 hh7 hb72 c5 hat hgc
                    go_upto_region 17 with (fail)
                    have hcb : ∀ q, cv.ownBlock = some q → q ≠ p := fun q hq e => by
                      obtain ⟨cs, hc⟩ := row_block HCV.out hq
                      rw [e, HPW.out] at hc
                      cases hc
                    have hsz9 : W7.heap.size ≤ w9.heap.size := Nat.le_trans HY7.out.size HG9.out.size
                    have hw7 := HK7.out.size
                    have hk9 : ∀ k, k < W7.heap.size → some k ≠ cv.ownBlock → w9.heap[k]? = W7.heap[k]? := fun k hk hn => (HG9.out.block k (by have := HY7.out.size; omega) hn).trans (HY7.out.block k hk)
                    have hgb : g9 ≠ p := fun e => by
                      obtain ⟨cs, hc⟩ := row_block (v := .slice (some ⟨g9, 0, none⟩) (b.old.length + 1) cap9) HR9.out rfl
                      rw [e, HB9.out] at hc
                      cases hc
                    obtain ⟨W8, hW8⟩ : ∃ W8, W8 = w9.setCell ⟨p, 5, none⟩ (.slice (some ⟨g9, 0, none⟩) (b.old.length + 1) cap9) := ⟨_, rfl⟩
                    obtain ⟨cw, hcw⟩ : ∃ cw, cw = Value.slice (some ⟨g9, 0, none⟩) (b.old.length + 1) cap9 := ⟨_, rfl⟩
                    have hset : ∀ k, k ≠ p → W8.heap[k]? = w9.heap[k]? := fun k hk => by rw [hW8]; exact heap_setCell_other w9 _ k _ hk
                    have b8 : W8.heap[p]? = some (.cells #[.map ml, .map mc, .map md, .map (some bg), .map mf, cw] 40) := by rw [hW8, hcw]; exact heap_setCell_same w9 p 5 _ _ _ b9
                    have HR8 : Hid (W8.ownsRow 0 23 6 cw (b.put ⟨ga, gb, gl, gn, gN, gt⟩).old.length ((b.put ⟨ga, gb, gl, gn, gN, gt⟩).old.flatMap Gd.cs)) := Lib.hid (by
                      have he : (b.put ⟨ga, gb, gl, gn, gN, gt⟩).old = b.old ++ [⟨oa, ob, ol, on, oN, ot⟩] := by
                        unfold Bk.put
                        simp only [Gd.pl]
                        rw [HOO.out]
                        simp [HNE.out]
                      rw [he, hcw]
                      refine row_of_block HR9.out (fun k hk => hset k (fun e => hgb ?_))
                      injection hk with hk
                      exact hk.trans e)
                    have HCB : Hid (cw.ownBlock = cv.ownBlock ∨ ∃ q, cw.ownBlock = some q ∧ w.heap.size ≤ q) := Lib.hid (by
                      rw [hcw]
                      rcases HAT.out with h | h
                      · exact .inl h.symm
                      · exact .inr ⟨g9, rfl, by have := HY7.out.size; omega⟩)
                    have HS8 : Hid (∀ k, k < w.heap.size → k ≠ p → some k ≠ cv.ownBlock → W8.heap[k]? = w.heap[k]?) := Lib.hid fun k hk hkp hkc => (hset k hkp).trans ((hk9 k (by omega) hkc).trans (HS7.out k hk hkp))
                    have HK8 : Hid (KF F w W8) := Lib.hid ⟨by rw [hW8]; exact HG9.out.os.trans (HY7.out.os.trans HK7.out.os), by rw [hW8]; exact HG9.out.tape.trans (HY7.out.tape.trans HK7.out.tape), by rw [hW8]; exact HG9.out.output.trans (HY7.out.output.trans HK7.out.output), by rw [hW8, World.size_setCell]; omega, fun k hk hn => by
                      rw [HFF.out, mem_blks] at hn
                      exact HS8.out k hk (fun e => hn (.inl e)) (fun e => hn (.inr (.inr (.inr (.inr (.inr (.inr e.symm)))))))⟩
                    have hbgc : some bg ≠ cv.ownBlock := fun e => by
                      obtain ⟨cs, hc⟩ := row_block HCV7.out e.symm
                      obtain ⟨-, -, es, clock, hm0, -⟩ := HM7.out
                      rw [hc] at hm0
                      cases hm0
                    have hbgp : bg ≠ p := fun e => by
                      obtain ⟨-, -, es, clock, hm0, -⟩ := HM7.out
                      rw [e, b7] at hm0
                      cases hm0
                    have HM8 : Hid (MP encP OkP W8 bg m) := Lib.hid (HM7.out.of_block ((hset bg hbgp).trans (hk9 bg HM7.out.lt hbgc)))
                    have hpgp : pg ≠ p := by have := HPS.out; omega
                    have hpgc : some pg ≠ cv.ownBlock := fun e => by
                      have := (HCV.out.lt pg e.symm).2
                      have := HPS.out
                      omega
                    have p8 := (hset pg hpgp).trans ((hk9 pg (Rg.lt_of_heap p7) hpgc).trans p7)
                    rw [← hW8]
                    clear hset hk9 hsz9 hw7 hcb hgb hbgc hbgp hpgp hpgc hcw hW8 HCV7 HS7 HK7 HM7 b7 p7 n7 n8 hbo b9 q9 f9 l7 lo7 HB9 HR9 HG9 HY7 HAT
                    have q8 := cell_of_row W8 p 3 _ _ _ b8
                    have l8 := Rg.lt_of_heap b8
                    refine Rr.wp_region [(0, .y), (1, .y), (2, .y), (3, .y), (4, .y), (5, .y), (6, .y)] (fun _ => (.cells #[] 23, Rg.ptr)) (by kernel_rfl) (by kernel_rfl) ?_
                    (refine Rr.wr_y (by simp only [List.getElem?_toArray, List.getElem?_cons_succ, List.getElem?_cons_zero]; rfl) (by rfl) ?_
                     apply Exists.intro
                     refine ⟨fun wz hw _ => ?_, ?_⟩
                     · have hcz := hw.cells.1
                       go_simp
                       (with_reducible exact Rg.up_value)
                     simp only [Act.put, List.setIfInBounds_toArray, List.set_cons_zero, List.set_cons_succ])
                    (refine Rr.wr_y (by simp only [List.getElem?_toArray, List.getElem?_cons_succ, List.getElem?_cons_zero]; rfl) (by rfl) ?_
                     apply Exists.intro
                     refine ⟨fun wz hw _ => ?_, ?_⟩
                     · have hcz := hw.cells.1
                       go_simp
                       (with_reducible exact Rg.up_value)
                     simp only [Act.put, List.setIfInBounds_toArray, List.set_cons_zero, List.set_cons_succ])
                    (refine Rr.wr_y (by simp only [List.getElem?_toArray, List.getElem?_cons_succ, List.getElem?_cons_zero]; rfl) (by rfl) ?_
                     apply Exists.intro
                     refine ⟨fun wz hw _ => ?_, ?_⟩
                     · have hcz := hw.cells.1
                       go_simp
                       (with_reducible exact Rg.up_value)
                     simp only [Act.put, List.setIfInBounds_toArray, List.set_cons_zero, List.set_cons_succ])
                    (refine Rr.wr_y (by simp only [List.getElem?_toArray, List.getElem?_cons_succ, List.getElem?_cons_zero]; rfl) (by rfl) ?_
                     apply Exists.intro
                     refine ⟨fun wz hw _ => ?_, ?_⟩
                     · have hcz := hw.cells.1
                       go_simp
                       (with_reducible exact Rg.up_value)
                     simp only [Act.put, List.setIfInBounds_toArray, List.set_cons_zero, List.set_cons_succ])
                    (refine Rr.wr_y (by simp only [List.getElem?_toArray, List.getElem?_cons_succ, List.getElem?_cons_zero]; rfl) (by rfl) ?_
                     apply Exists.intro
                     refine ⟨fun wz hw _ => ?_, ?_⟩
                     · have hcz := hw.cells.1
                       exact up_row (by rfl) ((hw.block _ (Rg.lt_of_heap p8)).trans p8) Tryz.underlying23 (by kernel_rfl)
                     simp only [Act.put, List.setIfInBounds_toArray, List.set_cons_zero, List.set_cons_succ])
                    (refine Rr.wr_y (by simp only [List.getElem?_toArray, List.getElem?_cons_succ, List.getElem?_cons_zero]; rfl) (by rfl) ?_
                     apply Exists.intro
                     refine ⟨fun wz hw _ => ?_, ?_⟩
                     · have hcz := hw.cells.1
                       go_simp
                       apply Rg.up_enter
                       (with_reducible refine (hWh _).mono ?_)
                       rintro e w3 ⟨rfl, hb3⟩
                       exact ⟨rfl, hb3⟩
                     simp only [Act.put, List.setIfInBounds_toArray, List.set_cons_zero, List.set_cons_succ])
                    (refine Rr.wr_y (by simp only [List.getElem?_toArray, List.getElem?_cons_succ, List.getElem?_cons_zero]; rfl) (by rfl) ?_
                     apply Exists.intro
                     refine ⟨fun wz hw _ => ?_, ?_⟩
                     · have hcz := hw.cells.1
                       exact up_row (by rfl) ((hw.block _ (Rg.lt_of_heap p8)).trans p8) Tryz.underlying23 (by kernel_rfl)
                     simp only [Act.put, List.setIfInBounds_toArray, List.set_cons_zero, List.set_cons_succ])
                    refine Rr.wr_nil ?_
                    intro wz hz hhz
                    simp only [List.length_cons, List.length_nil, List.drop_succ_cons, List.drop_zero, Nat.reduceAdd]
                    refine wpList_store rfl (.tmp 107) (.tmp 109) (.tmp 110) 38 rfl 91 23 keP Tryz.underlying38 bg m (by rfl) (HM8.out.ext hz) ⟨gb, gl, gn, ga⟩ (by rfl) ⟨HG.out.2.1, HG.out.2.2.1, HG.out.2.2.2.1, HG.out.1⟩ (.agg #[.int .i64 ga, .int .i64 gb, .int .i64 gl, .string gn, .int .i64 gN, .int .i64 gt]) (by rfl) ?_
                    intro wf hmf hgf
                    have HMF := Lib.hid hmf; have HGF := Lib.hid hgf; have HZ := Lib.hid hz
                    clear hmf hgf hz hhz q8
                    go_wp2_with (fail)
                    go_ret
                    rw [HRR.out]
                    refine ⟨rfl, ?_⟩
                    have hkf : ∀ k, k < W8.heap.size → k ≠ bg → wf.heap[k]? = W8.heap[k]? := fun k hk hn => (HGF.out.block k (by have := HZ.out.size; omega) (fun e => hn (by injection e))).trans (HZ.out.block k hk)
                    have hw8 := HK8.out.size
                    have hbgp : bg ≠ p := fun e => by
                      obtain ⟨-, -, es, clock, hm0, -⟩ := HM8.out
                      rw [e, b8] at hm0
                      cases hm0
                    have hbl := HM8.out.lt
                    refine put_done HPW.out HFF.out HND.out HH1.out HH2.out HH3.out HH5.out HCV.out HR7.out HG.out HBG.out ((hkf p l8 (fun e => hbgp e.symm)).trans b8) ⟨_, HMF.out, fun k => ?_⟩ (row_of_block HR8.out (fun k hk => hkf k (HR8.out.lt k hk).2 (fun e => ?_))) HCB.out ⟨?_, ?_, ?_, ?_, fun k hk hn => ?_⟩ (fun k hk hkp hkm hkc => ?_)
                    · exact put_look (g := ⟨ga, gb, gl, gn, gN, gt⟩) HLK.out k
                    · obtain ⟨cs, hc⟩ := row_block HR8.out hk
                      obtain ⟨-, -, es, clock, hm0, -⟩ := HM8.out
                      rw [e, hm0] at hc
                      cases hc
                    · exact HGF.out.os.trans (HZ.out.os.trans HK8.out.os)
                    · exact HGF.out.tape.trans (HZ.out.tape.trans HK8.out.tape)
                    · exact HGF.out.output.trans (HZ.out.output.trans HK8.out.output)
                    · exact Nat.le_trans hw8 (Nat.le_trans HZ.out.size HGF.out.size)
                    · refine (hkf k (by omega) (fun e => hn ?_)).trans (HK8.out.block k hk hn)
                      rw [HFF.out, mem_blks, e]
                      exact .inr (.inr (.inr (.inr (.inl (HBG.out.old (by omega))))))
                    · refine (hkf k (by omega) (fun e => hkm ?_)).trans (HS8.out k hk hkp hkc)
                      exact (congrArg some e).trans (HBG.out.old (by omega)).symm
              | none =>
                have hmm := @run_makeMap Tryz.prog
                have hgn : ∀ k, ((b.gr k).map Gd.v) = none := HMG.out
                simp only [Option.isNone_none] at hne
                have l5 := Rg.lt_of_heap b5
                have f3 : W5.frozen? ⟨p, 3, none⟩ = false := by simp [World.frozen?, b5]
                have HGN := Lib.hid hgn; clear hgn
                go_upto_region 14 with (fail)
                obtain ⟨bg, hbg⟩ : ∃ bg, bg = W5.heap.size := ⟨_, rfl⟩
                have hpg5 : pg < W5.heap.size := Rg.lt_of_heap p5
                have hsz : (W5.setCell ⟨p, 3, none⟩ (.map (some bg))).heap.size = W5.heap.size := World.size_setCell _ _ _
                have hold : ∀ k, k < W5.heap.size → k ≠ p → ((W5.setCell ⟨p, 3, none⟩ (.map (some bg))).alloc (.map #[] 0)).heap[k]? = W5.heap[k]? := fun k hk hkp => (Below.heap_alloc _ _ k (by rw [hsz]; exact hk)).trans (heap_setCell_other W5 _ k _ hkp)
                have b6 : ((W5.setCell ⟨p, 3, none⟩ (.map (some bg))).alloc (.map #[] 0)).heap[p]? = some (.cells #[.map ml, .map mc, .map md, .map (some bg), .map mf, cv] 40) := (Below.heap_alloc _ _ p (by rw [hsz]; exact l5)).trans (heap_setCell_same W5 p 3 _ _ _ b5)
                have p6 := (hold pg hpg5 (by have := HPS.out; have := hlt; show pg ≠ p; omega)).trans p5
                have HM6 : Hid (MP encP OkP ((W5.setCell ⟨p, 3, none⟩ (.map (some bg))).alloc (.map #[] 0)) bg []) := Lib.hid (by
                  have := MP.made (enc := encP) (good := OkP) (W5.setCell ⟨p, 3, none⟩ (.map (some bg)))
                  rw [hsz, ← hbg] at this
                  exact this)
                have HLK : Hid (∀ k, ([] : List (Pl × Value)).lookup k = (b.gr k).map Gd.v) := Lib.hid fun k => by rw [HGN.out k]; rfl
                have HS6 : Hid (∀ k, k < w.heap.size → k ≠ p → ((W5.setCell ⟨p, 3, none⟩ (.map (some bg))).alloc (.map #[] 0)).heap[k]? = w.heap[k]?) := Lib.hid fun k hk hkp => (hold k (by omega) hkp).trans (hx5.block k hk)
                have HK6 : Hid (KF F w ((W5.setCell ⟨p, 3, none⟩ (.map (some bg))).alloc (.map #[] 0))) := Lib.hid ⟨hx5.os, hx5.tape, hx5.output, by rw [World.size_alloc, hsz]; omega, fun k hk hn => HS6.out k hk (fun e => hn (by rw [HFF.out, mem_blks]; exact .inl e))⟩
                have HBG : Hid (BGd none bg w.heap.size) := Lib.hid (.inr ⟨rfl, by rw [hbg]; exact hB5⟩)
                have HCV6 : Hid (((W5.setCell ⟨p, 3, none⟩ (.map (some bg))).alloc (.map #[] 0)).ownsRow 0 23 6 cv b.old.length (b.old.flatMap Gd.cs)) := Lib.hid (row_of_block HCV.out (fun k hk => by
                  have h1 := (HCV.out.lt k hk).2
                  obtain ⟨cs, hc⟩ := row_block HCV.out hk
                  exact HS6.out k h1 (fun e => by subst e; rw [HPW.out] at hc; cases hc)))
                rw [← hbg]
                have HB5 : Hid (w.heap.size ≤ ((W5.setCell ⟨p, 3, none⟩ (.map (some bg))).alloc (.map #[] 0)).heap.size) := Lib.hid HK6.out.size
                clear hold hsz hmm hne q3 hx5 b5 p5 l5 f3 hbg hB5
                generalize (W5.setCell ⟨p, 3, none⟩ (.map (some bg))).alloc (.map #[] 0) = W6 at *
                obtain ⟨m, hmE⟩ : ∃ m : List (Pl × Value), m = [] := ⟨_, rfl⟩
                rw [← hmE] at HM6 HLK
                clear hmE
                have q3 := cell_of_row W6 p 3 _ _ _ b6
                have lp6 := Rg.lt_of_heap b6
                have hL4 : ∀ wz, Ext W6 wz → (Instr.lookup 38 (.map (some bg)) (.agg #[.int .i64 gb, .int .i64 gl, .string gn, .int .i64 ga]) true).run Tryz.prog wz = .ok (.tuple #[((b.gr ⟨gb, gl, gn, ga⟩).map Gd.v).getD (.agg #[.int .i64 0, .int .i64 0, .int .i64 0, .string ⟨#[]⟩, .int .i64 0, .int .i64 0]), .bool (b.gr ⟨gb, gl, gn, ga⟩).isSome]) wz := fun wz hz => by
                  have := (HM6.out.ext hz).look keP Tryz.underlying38 (z := .agg #[.int .i64 0, .int .i64 0, .int .i64 0, .string ⟨#[]⟩, .int .i64 0, .int .i64 0]) (by rfl) (x := ⟨gb, gl, gn, ga⟩) ⟨HG.out.2.1, HG.out.2.2.1, HG.out.2.2.2.1, HG.out.1⟩ true
                  rw [HLK.out] at this
                  simpa using this
                obtain ⟨o, th, hov, hth, hoc⟩ : ∃ (o : Gd) (th : Bool), ((b.gr ⟨gb, gl, gn, ga⟩).map Gd.v).getD (.agg #[.int .i64 0, .int .i64 0, .int .i64 0, .string ⟨#[]⟩, .int .i64 0, .int .i64 0]) = o.v ∧ (b.gr ⟨gb, gl, gn, ga⟩).isSome = th ∧ ((th = false ∧ b.gr ⟨gb, gl, gn, ga⟩ = none) ∨ (th = true ∧ b.gr ⟨gb, gl, gn, ga⟩ = some o)) := by
                  cases ho : b.gr ⟨gb, gl, gn, ga⟩ with
                  | none => exact ⟨⟨0, 0, 0, ⟨#[]⟩, 0, 0⟩, false, rfl, rfl, .inl ⟨rfl, rfl⟩⟩
                  | some o => exact ⟨o, true, rfl, rfl, .inr ⟨rfl, rfl⟩⟩
                rw [hov, hth] at hL4
                have HOC := Lib.hid hoc
                clear hov hth hoc
                obtain ⟨oa, ob, ol, on, oN, ot⟩ := o
                have hWh := fun wz => where_any ⟨ga, gb, gl, gn, gN, gt⟩ wz
                simp only [Gd.v, Gd.pl] at hL4 hWh
                refine Rr.wp_regionE [9] [(0, .y), (1, .y), (2, .y), (3, .y), (4, .y), (5, .y), (6, .y), (7, .y), (8, .y), (9, .y), (10, .m)] (fun _ => (.cells #[.int .i64 0, .int .i64 0, .int .i64 0, .string ⟨#[]⟩, .int .i64 0, .int .i64 0] 23, Rg.ptr)) (fun c a d v w h => by have h' : _ ∧ _ := h; exact ⟨(Rr.put_defers a d v).symm.trans h'.1, h'.2⟩) (by kernel_rfl) (by kernel_rfl) ?_
                (refine Rr.wr_y (by simp only [List.getElem?_toArray, List.getElem?_cons_succ, List.getElem?_cons_zero]; rfl) (by rfl) ?_
                 apply Exists.intro
                 refine ⟨fun wz hw _ => ?_, ?_⟩
                 · have hcz := hw.cells.1
                   go_simp
                   (with_reducible exact Rg.up_value)
                 simp only [Act.put, List.setIfInBounds_toArray, List.set_cons_zero, List.set_cons_succ])
                (refine Rr.wr_y (by simp only [List.getElem?_toArray, List.getElem?_cons_succ, List.getElem?_cons_zero]; rfl) (by rfl) ?_
                 apply Exists.intro
                 refine ⟨fun wz hw _ => ?_, ?_⟩
                 · have hcz := hw.cells.1
                   go_simp
                   (with_reducible exact Rg.up_value)
                 simp only [Act.put, List.setIfInBounds_toArray, List.set_cons_zero, List.set_cons_succ])
                (refine Rr.wr_y (by simp only [List.getElem?_toArray, List.getElem?_cons_succ, List.getElem?_cons_zero]; rfl) (by rfl) ?_
                 apply Exists.intro
                 refine ⟨fun wz hw _ => ?_, ?_⟩
                 · have hcz := hw.cells.1
                   go_simp
                   (with_reducible exact Rg.up_value)
                 simp only [Act.put, List.setIfInBounds_toArray, List.set_cons_zero, List.set_cons_succ])
                (refine Rr.wr_y (by simp only [List.getElem?_toArray, List.getElem?_cons_succ, List.getElem?_cons_zero]; rfl) (by rfl) ?_
                 apply Exists.intro
                 refine ⟨fun wz hw _ => ?_, ?_⟩
                 · have hcz := hw.cells.1
                   go_simp
                   (with_reducible exact Rg.up_value)
                 simp only [Act.put, List.setIfInBounds_toArray, List.set_cons_zero, List.set_cons_succ])
                (refine Rr.wr_y (by simp only [List.getElem?_toArray, List.getElem?_cons_succ, List.getElem?_cons_zero]; rfl) (by rfl) ?_
                 apply Exists.intro
                 refine ⟨fun wz hw _ => ?_, ?_⟩
                 · have hcz := hw.cells.1
                   exact up_row (by rfl) ((hw.block _ (Rg.lt_of_heap p6)).trans p6) Tryz.underlying23 (by kernel_rfl)
                 simp only [Act.put, List.setIfInBounds_toArray, List.set_cons_zero, List.set_cons_succ])
                (refine Rr.wr_y (by simp only [List.getElem?_toArray, List.getElem?_cons_succ, List.getElem?_cons_zero]; rfl) (by rfl) ?_
                 apply Exists.intro
                 refine ⟨fun wz hw _ => ?_, ?_⟩
                 · have hcz := hw.cells.1
                   go_simp
                   apply Rg.up_enter
                   (with_reducible refine (hWh _).mono ?_)
                   rintro e w3 ⟨rfl, hb3⟩
                   exact ⟨rfl, hb3⟩
                 simp only [Act.put, List.setIfInBounds_toArray, List.set_cons_zero, List.set_cons_succ])
                (refine Rr.wr_y (by simp only [List.getElem?_toArray, List.getElem?_cons_succ, List.getElem?_cons_zero]; rfl) (by rfl) ?_
                 apply Exists.intro
                 refine ⟨fun wz hw _ => ?_, ?_⟩
                 · have hcz := hw.cells.1
                   have hl := hL4 wz hw
                   go_simp
                   (with_reducible exact Rg.up_value)
                 simp only [Act.put, List.setIfInBounds_toArray, List.set_cons_zero, List.set_cons_succ])
                (refine Rr.wr_y (by simp only [List.getElem?_toArray, List.getElem?_cons_succ, List.getElem?_cons_zero]; rfl) (by rfl) ?_
                 apply Exists.intro
                 refine ⟨fun wz hw _ => ?_, ?_⟩
                 · have hcz := hw.cells.1
                   go_simp
                   (with_reducible exact Rg.up_value)
                 simp only [Act.put, List.setIfInBounds_toArray, List.set_cons_zero, List.set_cons_succ])
                (refine Rr.wr_y (by simp only [List.getElem?_toArray, List.getElem?_cons_succ, List.getElem?_cons_zero]; rfl) (by rfl) ?_
                 apply Exists.intro
                 refine ⟨fun wz hw _ => ?_, ?_⟩
                 · have hcz := hw.cells.1
                   go_simp
                   (with_reducible exact Rg.up_value)
                 simp only [Act.put, List.setIfInBounds_toArray, List.set_cons_zero, List.set_cons_succ])
                (refine Rr.wr_y (by simp only [List.getElem?_toArray, List.getElem?_cons_succ, List.getElem?_cons_zero]; rfl) (by rfl) ?_
                 apply Exists.intro
                 refine ⟨fun wz hw _ => ?_, ?_⟩
                 · have hcz := hw.cells.1
                   go_simp
                   (with_reducible exact Rg.up_value)
                 simp only [Act.put, List.setIfInBounds_toArray, List.set_cons_zero, List.set_cons_succ])
                refine Rr.wr_m (by simp only [List.getElem?_toArray, List.getElem?_cons_succ, List.getElem?_cons_zero]; rfl) (by rfl) (fun wz => by go_simp) (fun po hpo => ?_)
                simp only [Act.put, List.setIfInBounds_toArray, List.set_cons_zero, List.set_cons_succ]
                refine Rr.wr_nil ?_
                intro wy6 hy6 hh6
                obtain ⟨hb61, hb62⟩ := hh6 _ List.mem_cons_self
                simp only [List.length_cons, List.length_nil, List.drop_succ_cons, List.drop_zero, Nat.reduceAdd]
                refine wpList_store_row (hgd := rfl) 23 (.tmp 7) (.tmp 84) rfl po (by rfl) #[.int .i64 oa, .int .i64 ob, .int .i64 ol, .string on, .int .i64 oN, .int .i64 ot] (by rfl) #[.int .i64 0, .int .i64 0, .int .i64 0, .string ⟨#[]⟩, .int .i64 0, .int .i64 0] 23 hb62 (by rfl) (by kernel_rfl) (by simp [Value.oneCell']) ?_
                have hbo := setRow_heap wy6 po _ #[.int .i64 oa, .int .i64 ob, .int .i64 ol, .string on, .int .i64 oN, .int .i64 ot] 23 _ hb62
                have hx7 : Ext W6 (wy6.setRow po #[.int .i64 oa, .int .i64 ob, .int .i64 ol, .string on, .int .i64 oN, .int .i64 ot]) := below_setRow hy6 hb61 _
                clear hh6 hb62 hy6 hL4 q3 lp6
                generalize wy6.setRow po #[.int .i64 oa, .int .i64 ob, .int .i64 ol, .string on, .int .i64 oN, .int .i64 ot] = W7 at *
                have b7 := (hx7.block p (Rg.lt_of_heap b6)).trans b6
                have p7 := (hx7.block pg (Rg.lt_of_heap p6)).trans p6
                have HM7 := Lib.hid (HM6.out.ext hx7)
                have HCV7 := Lib.hid (row_ext HCV6.out hx7)
                have HS7 : Hid (∀ k, k < w.heap.size → k ≠ p → W7.heap[k]? = w.heap[k]?) := Lib.hid fun k hk hkp => (hx7.block k (by have := HK6.out.size; omega)).trans (HS6.out k hk hkp)
                have HK7 : Hid (KF F w W7) := Lib.hid (HK6.out.trans (KF.of (F := []) hx7) (by simp))
                clear hx7 b6 p6 HM6 HCV6 HS6 HK6
                have n7 := cell_of_row W7 po 4 _ _ _ hbo
                have n8 := cell_of_row W7 pg 4 _ _ _ p7
                cases th
                · skip
                  go_upto_region 17 with (fail)
                  have HR8 : Hid (W7.ownsRow 0 23 6 cv (b.put ⟨ga, gb, gl, gn, gN, gt⟩).old.length ((b.put ⟨ga, gb, gl, gn, gN, gt⟩).old.flatMap Gd.cs)) := Lib.hid (by
                    have he : (b.put ⟨ga, gb, gl, gn, gN, gt⟩).old = b.old := by
                      unfold Bk.put
                      simp only [Gd.pl]
                      rcases HOC.out with ⟨h0, h⟩ | ⟨h0, h⟩
                      · rw [h]; simp
                      · cases h0
                    rw [he]
                    exact HCV7.out)
                  obtain ⟨W8, hW8⟩ : ∃ W8, W8 = W7 := ⟨_, rfl⟩
                  obtain ⟨cw, hcw⟩ : ∃ cw, cw = cv := ⟨_, rfl⟩
                  have HCB : Hid (cw.ownBlock = cv.ownBlock ∨ ∃ q, cw.ownBlock = some q ∧ w.heap.size ≤ q) := Lib.hid (.inl (by rw [hcw]))
                  have HS8 : Hid (∀ k, k < w.heap.size → k ≠ p → some k ≠ cv.ownBlock → W8.heap[k]? = w.heap[k]?) := Lib.hid (by rw [hW8]; exact fun k hk hkp _ => HS7.out k hk hkp)
                  have HK8 : Hid (KF F w W8) := Lib.hid (by rw [hW8]; exact HK7.out)
                  have HM8 : Hid (MP encP OkP W8 bg m) := Lib.hid (by rw [hW8]; exact HM7.out)
                  have b8 : W8.heap[p]? = some (.cells #[.map ml, .map mc, .map md, .map (some bg), .map mf, cw] 40) := by rw [hW8, hcw]; exact b7
                  have p8 := p7
                  rw [← hcw] at HR8
                  rw [← hW8] at HR8 p8 ⊢
                  clear hW8 hcw HCV7 HS7 HK7 HM7 b7 p7 n7 n8 hbo
                  have q8 := cell_of_row W8 p 3 _ _ _ b8
                  have l8 := Rg.lt_of_heap b8
                  refine Rr.wp_region [(0, .y), (1, .y), (2, .y), (3, .y), (4, .y), (5, .y), (6, .y)] (fun _ => (.cells #[] 23, Rg.ptr)) (by kernel_rfl) (by kernel_rfl) ?_
                  (refine Rr.wr_y (by simp only [List.getElem?_toArray, List.getElem?_cons_succ, List.getElem?_cons_zero]; rfl) (by rfl) ?_
                   apply Exists.intro
                   refine ⟨fun wz hw _ => ?_, ?_⟩
                   · have hcz := hw.cells.1
                     go_simp
                     (with_reducible exact Rg.up_value)
                   simp only [Act.put, List.setIfInBounds_toArray, List.set_cons_zero, List.set_cons_succ])
                  (refine Rr.wr_y (by simp only [List.getElem?_toArray, List.getElem?_cons_succ, List.getElem?_cons_zero]; rfl) (by rfl) ?_
                   apply Exists.intro
                   refine ⟨fun wz hw _ => ?_, ?_⟩
                   · have hcz := hw.cells.1
                     go_simp
                     (with_reducible exact Rg.up_value)
                   simp only [Act.put, List.setIfInBounds_toArray, List.set_cons_zero, List.set_cons_succ])
                  (refine Rr.wr_y (by simp only [List.getElem?_toArray, List.getElem?_cons_succ, List.getElem?_cons_zero]; rfl) (by rfl) ?_
                   apply Exists.intro
                   refine ⟨fun wz hw _ => ?_, ?_⟩
                   · have hcz := hw.cells.1
                     go_simp
                     (with_reducible exact Rg.up_value)
                   simp only [Act.put, List.setIfInBounds_toArray, List.set_cons_zero, List.set_cons_succ])
                  (refine Rr.wr_y (by simp only [List.getElem?_toArray, List.getElem?_cons_succ, List.getElem?_cons_zero]; rfl) (by rfl) ?_
                   apply Exists.intro
                   refine ⟨fun wz hw _ => ?_, ?_⟩
                   · have hcz := hw.cells.1
                     go_simp
                     (with_reducible exact Rg.up_value)
                   simp only [Act.put, List.setIfInBounds_toArray, List.set_cons_zero, List.set_cons_succ])
                  (refine Rr.wr_y (by simp only [List.getElem?_toArray, List.getElem?_cons_succ, List.getElem?_cons_zero]; rfl) (by rfl) ?_
                   apply Exists.intro
                   refine ⟨fun wz hw _ => ?_, ?_⟩
                   · have hcz := hw.cells.1
                     exact up_row (by rfl) ((hw.block _ (Rg.lt_of_heap p8)).trans p8) Tryz.underlying23 (by kernel_rfl)
                   simp only [Act.put, List.setIfInBounds_toArray, List.set_cons_zero, List.set_cons_succ])
                  (refine Rr.wr_y (by simp only [List.getElem?_toArray, List.getElem?_cons_succ, List.getElem?_cons_zero]; rfl) (by rfl) ?_
                   apply Exists.intro
                   refine ⟨fun wz hw _ => ?_, ?_⟩
                   · have hcz := hw.cells.1
                     go_simp
                     apply Rg.up_enter
                     (with_reducible refine (hWh _).mono ?_)
                     rintro e w3 ⟨rfl, hb3⟩
                     exact ⟨rfl, hb3⟩
                   simp only [Act.put, List.setIfInBounds_toArray, List.set_cons_zero, List.set_cons_succ])
                  (refine Rr.wr_y (by simp only [List.getElem?_toArray, List.getElem?_cons_succ, List.getElem?_cons_zero]; rfl) (by rfl) ?_
                   apply Exists.intro
                   refine ⟨fun wz hw _ => ?_, ?_⟩
                   · have hcz := hw.cells.1
                     exact up_row (by rfl) ((hw.block _ (Rg.lt_of_heap p8)).trans p8) Tryz.underlying23 (by kernel_rfl)
                   simp only [Act.put, List.setIfInBounds_toArray, List.set_cons_zero, List.set_cons_succ])
                  refine Rr.wr_nil ?_
                  intro wz hz hhz
                  simp only [List.length_cons, List.length_nil, List.drop_succ_cons, List.drop_zero, Nat.reduceAdd]
                  refine wpList_store rfl (.tmp 107) (.tmp 109) (.tmp 110) 38 rfl 91 23 keP Tryz.underlying38 bg m (by rfl) (HM8.out.ext hz) ⟨gb, gl, gn, ga⟩ (by rfl) ⟨HG.out.2.1, HG.out.2.2.1, HG.out.2.2.2.1, HG.out.1⟩ (.agg #[.int .i64 ga, .int .i64 gb, .int .i64 gl, .string gn, .int .i64 gN, .int .i64 gt]) (by rfl) ?_
                  intro wf hmf hgf
                  have HMF := Lib.hid hmf; have HGF := Lib.hid hgf; have HZ := Lib.hid hz
                  clear hmf hgf hz hhz q8
                  go_wp2_with (fail)
                  go_ret
                  rw [HRR.out]
                  refine ⟨rfl, ?_⟩
                  have hkf : ∀ k, k < W8.heap.size → k ≠ bg → wf.heap[k]? = W8.heap[k]? := fun k hk hn => (HGF.out.block k (by have := HZ.out.size; omega) (fun e => hn (by injection e))).trans (HZ.out.block k hk)
                  have hw8 := HK8.out.size
                  have hbgp : bg ≠ p := fun e => by
                    obtain ⟨-, -, es, clock, hm0, -⟩ := HM8.out
                    rw [e, b8] at hm0
                    cases hm0
                  have hbl := HM8.out.lt
                  refine put_done HPW.out HFF.out HND.out HH1.out HH2.out HH3.out HH5.out HCV.out HR7.out HG.out HBG.out ((hkf p l8 (fun e => hbgp e.symm)).trans b8) ⟨_, HMF.out, fun k => ?_⟩ (row_of_block HR8.out (fun k hk => hkf k (HR8.out.lt k hk).2 (fun e => ?_))) HCB.out ⟨?_, ?_, ?_, ?_, fun k hk hn => ?_⟩ (fun k hk hkp hkm hkc => ?_)
                  · exact put_look (g := ⟨ga, gb, gl, gn, gN, gt⟩) HLK.out k
                  · obtain ⟨cs, hc⟩ := row_block HR8.out hk
                    obtain ⟨-, -, es, clock, hm0, -⟩ := HM8.out
                    rw [e, hm0] at hc
                    cases hc
                  · exact HGF.out.os.trans (HZ.out.os.trans HK8.out.os)
                  · exact HGF.out.tape.trans (HZ.out.tape.trans HK8.out.tape)
                  · exact HGF.out.output.trans (HZ.out.output.trans HK8.out.output)
                  · exact Nat.le_trans hw8 (Nat.le_trans HZ.out.size HGF.out.size)
                  · refine (hkf k (by omega) (fun e => hn ?_)).trans (HK8.out.block k hk hn)
                    rw [HFF.out, mem_blks, e]
                    exact .inr (.inr (.inr (.inr (.inl (HBG.out.old (by omega))))))
                  · refine (hkf k (by omega) (fun e => hkm ?_)).trans (HS8.out k hk hkp hkc)
                    exact (congrArg some e).trans (HBG.out.old (by omega)).symm
                · by_cases hN : oN = gN
                  · have HNE := Lib.hid hN
                    rw [hN] at n7
                    clear hN
                    go_upto_region 17 with (fail)
                    have HR8 : Hid (W7.ownsRow 0 23 6 cv (b.put ⟨ga, gb, gl, gn, gN, gt⟩).old.length ((b.put ⟨ga, gb, gl, gn, gN, gt⟩).old.flatMap Gd.cs)) := Lib.hid (by
                      have he : (b.put ⟨ga, gb, gl, gn, gN, gt⟩).old = b.old := by
                        unfold Bk.put
                        simp only [Gd.pl]
                        rcases HOC.out with ⟨h0, h⟩ | ⟨h0, h⟩
                        · rw [h]; simp
                        · (rw [h]; simp [HNE.out])
                      rw [he]
                      exact HCV7.out)
                    obtain ⟨W8, hW8⟩ : ∃ W8, W8 = W7 := ⟨_, rfl⟩
                    obtain ⟨cw, hcw⟩ : ∃ cw, cw = cv := ⟨_, rfl⟩
                    have HCB : Hid (cw.ownBlock = cv.ownBlock ∨ ∃ q, cw.ownBlock = some q ∧ w.heap.size ≤ q) := Lib.hid (.inl (by rw [hcw]))
                    have HS8 : Hid (∀ k, k < w.heap.size → k ≠ p → some k ≠ cv.ownBlock → W8.heap[k]? = w.heap[k]?) := Lib.hid (by rw [hW8]; exact fun k hk hkp _ => HS7.out k hk hkp)
                    have HK8 : Hid (KF F w W8) := Lib.hid (by rw [hW8]; exact HK7.out)
                    have HM8 : Hid (MP encP OkP W8 bg m) := Lib.hid (by rw [hW8]; exact HM7.out)
                    have b8 : W8.heap[p]? = some (.cells #[.map ml, .map mc, .map md, .map (some bg), .map mf, cw] 40) := by rw [hW8, hcw]; exact b7
                    have p8 := p7
                    rw [← hcw] at HR8
                    rw [← hW8] at HR8 p8 ⊢
                    clear hW8 hcw HCV7 HS7 HK7 HM7 b7 p7 n7 n8 hbo
                    have q8 := cell_of_row W8 p 3 _ _ _ b8
                    have l8 := Rg.lt_of_heap b8
                    refine Rr.wp_region [(0, .y), (1, .y), (2, .y), (3, .y), (4, .y), (5, .y), (6, .y)] (fun _ => (.cells #[] 23, Rg.ptr)) (by kernel_rfl) (by kernel_rfl) ?_
                    (refine Rr.wr_y (by simp only [List.getElem?_toArray, List.getElem?_cons_succ, List.getElem?_cons_zero]; rfl) (by rfl) ?_
                     apply Exists.intro
                     refine ⟨fun wz hw _ => ?_, ?_⟩
                     · have hcz := hw.cells.1
                       go_simp
                       (with_reducible exact Rg.up_value)
                     simp only [Act.put, List.setIfInBounds_toArray, List.set_cons_zero, List.set_cons_succ])
                    (refine Rr.wr_y (by simp only [List.getElem?_toArray, List.getElem?_cons_succ, List.getElem?_cons_zero]; rfl) (by rfl) ?_
                     apply Exists.intro
                     refine ⟨fun wz hw _ => ?_, ?_⟩
                     · have hcz := hw.cells.1
                       go_simp
                       (with_reducible exact Rg.up_value)
                     simp only [Act.put, List.setIfInBounds_toArray, List.set_cons_zero, List.set_cons_succ])
                    (refine Rr.wr_y (by simp only [List.getElem?_toArray, List.getElem?_cons_succ, List.getElem?_cons_zero]; rfl) (by rfl) ?_
                     apply Exists.intro
                     refine ⟨fun wz hw _ => ?_, ?_⟩
                     · have hcz := hw.cells.1
                       go_simp
                       (with_reducible exact Rg.up_value)
                     simp only [Act.put, List.setIfInBounds_toArray, List.set_cons_zero, List.set_cons_succ])
                    (refine Rr.wr_y (by simp only [List.getElem?_toArray, List.getElem?_cons_succ, List.getElem?_cons_zero]; rfl) (by rfl) ?_
                     apply Exists.intro
                     refine ⟨fun wz hw _ => ?_, ?_⟩
                     · have hcz := hw.cells.1
                       go_simp
                       (with_reducible exact Rg.up_value)
                     simp only [Act.put, List.setIfInBounds_toArray, List.set_cons_zero, List.set_cons_succ])
                    (refine Rr.wr_y (by simp only [List.getElem?_toArray, List.getElem?_cons_succ, List.getElem?_cons_zero]; rfl) (by rfl) ?_
                     apply Exists.intro
                     refine ⟨fun wz hw _ => ?_, ?_⟩
                     · have hcz := hw.cells.1
                       exact up_row (by rfl) ((hw.block _ (Rg.lt_of_heap p8)).trans p8) Tryz.underlying23 (by kernel_rfl)
                     simp only [Act.put, List.setIfInBounds_toArray, List.set_cons_zero, List.set_cons_succ])
                    (refine Rr.wr_y (by simp only [List.getElem?_toArray, List.getElem?_cons_succ, List.getElem?_cons_zero]; rfl) (by rfl) ?_
                     apply Exists.intro
                     refine ⟨fun wz hw _ => ?_, ?_⟩
                     · have hcz := hw.cells.1
                       go_simp
                       apply Rg.up_enter
                       (with_reducible refine (hWh _).mono ?_)
                       rintro e w3 ⟨rfl, hb3⟩
                       exact ⟨rfl, hb3⟩
                     simp only [Act.put, List.setIfInBounds_toArray, List.set_cons_zero, List.set_cons_succ])
                    (refine Rr.wr_y (by simp only [List.getElem?_toArray, List.getElem?_cons_succ, List.getElem?_cons_zero]; rfl) (by rfl) ?_
                     apply Exists.intro
                     refine ⟨fun wz hw _ => ?_, ?_⟩
                     · have hcz := hw.cells.1
                       exact up_row (by rfl) ((hw.block _ (Rg.lt_of_heap p8)).trans p8) Tryz.underlying23 (by kernel_rfl)
                     simp only [Act.put, List.setIfInBounds_toArray, List.set_cons_zero, List.set_cons_succ])
                    refine Rr.wr_nil ?_
                    intro wz hz hhz
                    simp only [List.length_cons, List.length_nil, List.drop_succ_cons, List.drop_zero, Nat.reduceAdd]
                    refine wpList_store rfl (.tmp 107) (.tmp 109) (.tmp 110) 38 rfl 91 23 keP Tryz.underlying38 bg m (by rfl) (HM8.out.ext hz) ⟨gb, gl, gn, ga⟩ (by rfl) ⟨HG.out.2.1, HG.out.2.2.1, HG.out.2.2.2.1, HG.out.1⟩ (.agg #[.int .i64 ga, .int .i64 gb, .int .i64 gl, .string gn, .int .i64 gN, .int .i64 gt]) (by rfl) ?_
                    intro wf hmf hgf
                    have HMF := Lib.hid hmf; have HGF := Lib.hid hgf; have HZ := Lib.hid hz
                    clear hmf hgf hz hhz q8
                    go_wp2_with (fail)
                    go_ret
                    rw [HRR.out]
                    refine ⟨rfl, ?_⟩
                    have hkf : ∀ k, k < W8.heap.size → k ≠ bg → wf.heap[k]? = W8.heap[k]? := fun k hk hn => (HGF.out.block k (by have := HZ.out.size; omega) (fun e => hn (by injection e))).trans (HZ.out.block k hk)
                    have hw8 := HK8.out.size
                    have hbgp : bg ≠ p := fun e => by
                      obtain ⟨-, -, es, clock, hm0, -⟩ := HM8.out
                      rw [e, b8] at hm0
                      cases hm0
                    have hbl := HM8.out.lt
                    refine put_done HPW.out HFF.out HND.out HH1.out HH2.out HH3.out HH5.out HCV.out HR7.out HG.out HBG.out ((hkf p l8 (fun e => hbgp e.symm)).trans b8) ⟨_, HMF.out, fun k => ?_⟩ (row_of_block HR8.out (fun k hk => hkf k (HR8.out.lt k hk).2 (fun e => ?_))) HCB.out ⟨?_, ?_, ?_, ?_, fun k hk hn => ?_⟩ (fun k hk hkp hkm hkc => ?_)
                    · exact put_look (g := ⟨ga, gb, gl, gn, gN, gt⟩) HLK.out k
                    · obtain ⟨cs, hc⟩ := row_block HR8.out hk
                      obtain ⟨-, -, es, clock, hm0, -⟩ := HM8.out
                      rw [e, hm0] at hc
                      cases hc
                    · exact HGF.out.os.trans (HZ.out.os.trans HK8.out.os)
                    · exact HGF.out.tape.trans (HZ.out.tape.trans HK8.out.tape)
                    · exact HGF.out.output.trans (HZ.out.output.trans HK8.out.output)
                    · exact Nat.le_trans hw8 (Nat.le_trans HZ.out.size HGF.out.size)
                    · refine (hkf k (by omega) (fun e => hn ?_)).trans (HK8.out.block k hk hn)
                      rw [HFF.out, mem_blks, e]
                      exact .inr (.inr (.inr (.inr (.inl (HBG.out.old (by omega))))))
                    · refine (hkf k (by omega) (fun e => hkm ?_)).trans (HS8.out k hk hkp hkc)
                      exact (congrArg some e).trans (HBG.out.old (by omega)).symm
                  · have HNE := Lib.hid hN
                    have HOO : Hid (b.gr ⟨gb, gl, gn, ga⟩ = some ⟨oa, ob, ol, on, oN, ot⟩) := Lib.hid (by rcases HOC.out with ⟨h, -⟩ | ⟨-, h⟩; cases h; exact h)
                    have l7 := Rg.lt_of_heap b7
                    have lo7 := Rg.lt_of_heap hbo
                    go_upto_region 16 with (fail)
                    have c5 := cell_of_row W7 p 5 _ _ _ b7
                    refine Rp.wp_regionTE [0] [(0, .y), (1, .y), (2, .y), (3, .y), (4, .y), (5, .y), (6, .m)] [7, 8, 9, 10] (fun _ => (.cells #[.int .i64 oa, .int .i64 ob, .int .i64 ol, .string on, .int .i64 oN, .int .i64 ot] 23, fun p => .slice (some ⟨p, 0, none⟩) 1 1)) (fun c a d v w h => by have h' : _ ∧ _ := h; exact ⟨(Rr.put_defers a d v).symm.trans h'.1, h'.2⟩) (by kernel_rfl) (by kernel_rfl) ?_
                    (refine Rr.wr_y (by simp only [List.getElem?_toArray, List.getElem?_cons_succ, List.getElem?_cons_zero]; rfl) (by rfl) ?_
                     apply Exists.intro
                     refine ⟨fun wz hw _ => ?_, ?_⟩
                     · have hcz := hw.cells.1
                       go_simp
                       (with_reducible exact Rg.up_value)
                     simp only [Act.put, List.setIfInBounds_toArray, List.set_cons_zero, List.set_cons_succ])
                    (refine Rr.wr_y (by simp only [List.getElem?_toArray, List.getElem?_cons_succ, List.getElem?_cons_zero]; rfl) (by rfl) ?_
                     apply Exists.intro
                     refine ⟨fun wz hw _ => ?_, ?_⟩
                     · have hcz := hw.cells.1
                       go_simp
                       (with_reducible exact Rg.up_value)
                     simp only [Act.put, List.setIfInBounds_toArray, List.set_cons_zero, List.set_cons_succ])
                    (refine Rr.wr_y (by simp only [List.getElem?_toArray, List.getElem?_cons_succ, List.getElem?_cons_zero]; rfl) (by rfl) ?_
                     apply Exists.intro
                     refine ⟨fun wz hw _ => ?_, ?_⟩
                     · have hcz := hw.cells.1
                       go_simp
                       (with_reducible exact Rg.up_value)
                     simp only [Act.put, List.setIfInBounds_toArray, List.set_cons_zero, List.set_cons_succ])
                    (refine Rr.wr_y (by simp only [List.getElem?_toArray, List.getElem?_cons_succ, List.getElem?_cons_zero]; rfl) (by rfl) ?_
                     apply Exists.intro
                     refine ⟨fun wz hw _ => ?_, ?_⟩
                     · have hcz := hw.cells.1
                       go_simp
                       (with_reducible exact Rg.up_value)
                     simp only [Act.put, List.setIfInBounds_toArray, List.set_cons_zero, List.set_cons_succ])
                    (refine Rr.wr_y (by simp only [List.getElem?_toArray, List.getElem?_cons_succ, List.getElem?_cons_zero]; rfl) (by rfl) ?_
                     apply Exists.intro
                     refine ⟨fun wz hw _ => ?_, ?_⟩
                     · have hcz := hw.cells.1
                       go_simp
                       (with_reducible exact Rg.up_value)
                     simp only [Act.put, List.setIfInBounds_toArray, List.set_cons_zero, List.set_cons_succ])
                    (refine Rr.wr_y (by simp only [List.getElem?_toArray, List.getElem?_cons_succ, List.getElem?_cons_zero]; rfl) (by rfl) ?_
                     apply Exists.intro
                     refine ⟨fun wz hw _ => ?_, ?_⟩
                     · have hcz := hw.cells.1
                       exact up_row (by rfl) ((hw.block _ (Rg.lt_of_heap hbo)).trans hbo) Tryz.underlying23 (by kernel_rfl)
                     simp only [Act.put, List.setIfInBounds_toArray, List.set_cons_zero, List.set_cons_succ])
                    refine Rr.wr_m (by simp only [List.getElem?_toArray, List.getElem?_cons_succ, List.getElem?_cons_zero]; rfl) (by rfl) (fun wz => by go_simp) (fun pn hpn => ?_)
                    simp only [Act.put, List.setIfInBounds_toArray, List.set_cons_zero, List.set_cons_succ]
                    refine Rr.wr_nil ?_
                    intro wy7 hy7 hh7
                    obtain ⟨hb71, hb72⟩ := hh7 _ List.mem_cons_self
                    simp only [List.filterMap_cons, List.filterMap_nil, List.getElem?_cons_succ, List.getElem?_cons_zero]
                    refine append_g (cs := Gd.cs) (z := .agg #[.int .i64 0, .int .i64 0, .int .i64 0, .string ⟨#[]⟩, .int .i64 0, .int .i64 0]) 32 23 56 Tryz.underlying32 (by kernel_rfl) (by rfl) (by decide) (by decide) rfl (.tmp 98) (.tmp 100) rfl 0 cv b.old (by rfl) (row_ext HCV7.out hy7) pn ⟨oa, ob, ol, on, oN, ot⟩ ⟨rfl, by simp [Gd.cs, Value.oneCell']⟩ (by rfl) hb72 ?_ (Nat.zero_le _) ?_
                    · omega
                    intro g9 cap9 w9 hr9 hg9 hat
                    have b9 : w9.heap[p]? = some (.cells #[.map ml, .map mc, .map md, .map (some bg), .map mf, cv] 40) := (hg9.block p (by have := hy7.size; omega) (fun e => by
                      obtain ⟨cs, hc⟩ := row_block (row_ext HCV7.out hy7) e.symm
                      rw [(hy7.block p l7).trans b7] at hc
                      cases hc)).trans ((hy7.block p l7).trans b7)
                    have q9 := cell_of_row w9 p 5 _ _ _ b9
                    have f9 : w9.frozen? ⟨p, 5, none⟩ = false := by simp [World.frozen?, b9]
                    have hgc : ∀ {B E sz n : Nat} {v : Value} {xs : List Value} {q : Nat}, wy7.ownsRow B E sz v n xs → v.ownBlock = some q → ∃ cs, wy7.heap[q]? = some (.cells cs E) := fun h hq => row_block h hq
                    have HB9 := Lib.hid b9; have HR9 := Lib.hid hr9; have HG9 := Lib.hid hg9; have HY7 := Lib.hid hy7
                    have HAT := Lib.hid hat
                    clear hr9 hg9 hh7 hb72 c5 hat hgc
                    go_upto_region 17 with (fail)
                    have hcb : ∀ q, cv.ownBlock = some q → q ≠ p := fun q hq e => by
                      obtain ⟨cs, hc⟩ := row_block HCV.out hq
                      rw [e, HPW.out] at hc
                      cases hc
                    have hsz9 : W7.heap.size ≤ w9.heap.size := Nat.le_trans HY7.out.size HG9.out.size
                    have hw7 := HK7.out.size
                    have hk9 : ∀ k, k < W7.heap.size → some k ≠ cv.ownBlock → w9.heap[k]? = W7.heap[k]? := fun k hk hn => (HG9.out.block k (by have := HY7.out.size; omega) hn).trans (HY7.out.block k hk)
                    have hgb : g9 ≠ p := fun e => by
                      obtain ⟨cs, hc⟩ := row_block (v := .slice (some ⟨g9, 0, none⟩) (b.old.length + 1) cap9) HR9.out rfl
                      rw [e, HB9.out] at hc
                      cases hc
                    obtain ⟨W8, hW8⟩ : ∃ W8, W8 = w9.setCell ⟨p, 5, none⟩ (.slice (some ⟨g9, 0, none⟩) (b.old.length + 1) cap9) := ⟨_, rfl⟩
                    obtain ⟨cw, hcw⟩ : ∃ cw, cw = Value.slice (some ⟨g9, 0, none⟩) (b.old.length + 1) cap9 := ⟨_, rfl⟩
                    have hset : ∀ k, k ≠ p → W8.heap[k]? = w9.heap[k]? := fun k hk => by rw [hW8]; exact heap_setCell_other w9 _ k _ hk
                    have b8 : W8.heap[p]? = some (.cells #[.map ml, .map mc, .map md, .map (some bg), .map mf, cw] 40) := by rw [hW8, hcw]; exact heap_setCell_same w9 p 5 _ _ _ b9
                    have HR8 : Hid (W8.ownsRow 0 23 6 cw (b.put ⟨ga, gb, gl, gn, gN, gt⟩).old.length ((b.put ⟨ga, gb, gl, gn, gN, gt⟩).old.flatMap Gd.cs)) := Lib.hid (by
                      have he : (b.put ⟨ga, gb, gl, gn, gN, gt⟩).old = b.old ++ [⟨oa, ob, ol, on, oN, ot⟩] := by
                        unfold Bk.put
                        simp only [Gd.pl]
                        rw [HOO.out]
                        simp [HNE.out]
                      rw [he, hcw]
                      refine row_of_block HR9.out (fun k hk => hset k (fun e => hgb ?_))
                      injection hk with hk
                      exact hk.trans e)
                    have HCB : Hid (cw.ownBlock = cv.ownBlock ∨ ∃ q, cw.ownBlock = some q ∧ w.heap.size ≤ q) := Lib.hid (by
                      rw [hcw]
                      rcases HAT.out with h | h
                      · exact .inl h.symm
                      · exact .inr ⟨g9, rfl, by have := HY7.out.size; omega⟩)
                    have HS8 : Hid (∀ k, k < w.heap.size → k ≠ p → some k ≠ cv.ownBlock → W8.heap[k]? = w.heap[k]?) := Lib.hid fun k hk hkp hkc => (hset k hkp).trans ((hk9 k (by omega) hkc).trans (HS7.out k hk hkp))
                    have HK8 : Hid (KF F w W8) := Lib.hid ⟨by rw [hW8]; exact HG9.out.os.trans (HY7.out.os.trans HK7.out.os), by rw [hW8]; exact HG9.out.tape.trans (HY7.out.tape.trans HK7.out.tape), by rw [hW8]; exact HG9.out.output.trans (HY7.out.output.trans HK7.out.output), by rw [hW8, World.size_setCell]; omega, fun k hk hn => by
                      rw [HFF.out, mem_blks] at hn
                      exact HS8.out k hk (fun e => hn (.inl e)) (fun e => hn (.inr (.inr (.inr (.inr (.inr (.inr e.symm)))))))⟩
                    have hbgc : some bg ≠ cv.ownBlock := fun e => by
                      obtain ⟨cs, hc⟩ := row_block HCV7.out e.symm
                      obtain ⟨-, -, es, clock, hm0, -⟩ := HM7.out
                      rw [hc] at hm0
                      cases hm0
                    have hbgp : bg ≠ p := fun e => by
                      obtain ⟨-, -, es, clock, hm0, -⟩ := HM7.out
                      rw [e, b7] at hm0
                      cases hm0
                    have HM8 : Hid (MP encP OkP W8 bg m) := Lib.hid (HM7.out.of_block ((hset bg hbgp).trans (hk9 bg HM7.out.lt hbgc)))
                    have hpgp : pg ≠ p := by have := HPS.out; omega
                    have hpgc : some pg ≠ cv.ownBlock := fun e => by
                      have := (HCV.out.lt pg e.symm).2
                      have := HPS.out
                      omega
                    have p8 := (hset pg hpgp).trans ((hk9 pg (Rg.lt_of_heap p7) hpgc).trans p7)
                    rw [← hW8]
                    clear hset hk9 hsz9 hw7 hcb hgb hbgc hbgp hpgp hpgc hcw hW8 HCV7 HS7 HK7 HM7 b7 p7 n7 n8 hbo b9 q9 f9 l7 lo7 HB9 HR9 HG9 HY7 HAT
                    have q8 := cell_of_row W8 p 3 _ _ _ b8
                    have l8 := Rg.lt_of_heap b8
                    refine Rr.wp_region [(0, .y), (1, .y), (2, .y), (3, .y), (4, .y), (5, .y), (6, .y)] (fun _ => (.cells #[] 23, Rg.ptr)) (by kernel_rfl) (by kernel_rfl) ?_
                    (refine Rr.wr_y (by simp only [List.getElem?_toArray, List.getElem?_cons_succ, List.getElem?_cons_zero]; rfl) (by rfl) ?_
                     apply Exists.intro
                     refine ⟨fun wz hw _ => ?_, ?_⟩
                     · have hcz := hw.cells.1
                       go_simp
                       (with_reducible exact Rg.up_value)
                     simp only [Act.put, List.setIfInBounds_toArray, List.set_cons_zero, List.set_cons_succ])
                    (refine Rr.wr_y (by simp only [List.getElem?_toArray, List.getElem?_cons_succ, List.getElem?_cons_zero]; rfl) (by rfl) ?_
                     apply Exists.intro
                     refine ⟨fun wz hw _ => ?_, ?_⟩
                     · have hcz := hw.cells.1
                       go_simp
                       (with_reducible exact Rg.up_value)
                     simp only [Act.put, List.setIfInBounds_toArray, List.set_cons_zero, List.set_cons_succ])
                    (refine Rr.wr_y (by simp only [List.getElem?_toArray, List.getElem?_cons_succ, List.getElem?_cons_zero]; rfl) (by rfl) ?_
                     apply Exists.intro
                     refine ⟨fun wz hw _ => ?_, ?_⟩
                     · have hcz := hw.cells.1
                       go_simp
                       (with_reducible exact Rg.up_value)
                     simp only [Act.put, List.setIfInBounds_toArray, List.set_cons_zero, List.set_cons_succ])
                    (refine Rr.wr_y (by simp only [List.getElem?_toArray, List.getElem?_cons_succ, List.getElem?_cons_zero]; rfl) (by rfl) ?_
                     apply Exists.intro
                     refine ⟨fun wz hw _ => ?_, ?_⟩
                     · have hcz := hw.cells.1
                       go_simp
                       (with_reducible exact Rg.up_value)
                     simp only [Act.put, List.setIfInBounds_toArray, List.set_cons_zero, List.set_cons_succ])
                    (refine Rr.wr_y (by simp only [List.getElem?_toArray, List.getElem?_cons_succ, List.getElem?_cons_zero]; rfl) (by rfl) ?_
                     apply Exists.intro
                     refine ⟨fun wz hw _ => ?_, ?_⟩
                     · have hcz := hw.cells.1
                       exact up_row (by rfl) ((hw.block _ (Rg.lt_of_heap p8)).trans p8) Tryz.underlying23 (by kernel_rfl)
                     simp only [Act.put, List.setIfInBounds_toArray, List.set_cons_zero, List.set_cons_succ])
                    (refine Rr.wr_y (by simp only [List.getElem?_toArray, List.getElem?_cons_succ, List.getElem?_cons_zero]; rfl) (by rfl) ?_
                     apply Exists.intro
                     refine ⟨fun wz hw _ => ?_, ?_⟩
                     · have hcz := hw.cells.1
                       go_simp
                       apply Rg.up_enter
                       (with_reducible refine (hWh _).mono ?_)
                       rintro e w3 ⟨rfl, hb3⟩
                       exact ⟨rfl, hb3⟩
                     simp only [Act.put, List.setIfInBounds_toArray, List.set_cons_zero, List.set_cons_succ])
                    (refine Rr.wr_y (by simp only [List.getElem?_toArray, List.getElem?_cons_succ, List.getElem?_cons_zero]; rfl) (by rfl) ?_
                     apply Exists.intro
                     refine ⟨fun wz hw _ => ?_, ?_⟩
                     · have hcz := hw.cells.1
                       exact up_row (by rfl) ((hw.block _ (Rg.lt_of_heap p8)).trans p8) Tryz.underlying23 (by kernel_rfl)
                     simp only [Act.put, List.setIfInBounds_toArray, List.set_cons_zero, List.set_cons_succ])
                    refine Rr.wr_nil ?_
                    intro wz hz hhz
                    simp only [List.length_cons, List.length_nil, List.drop_succ_cons, List.drop_zero, Nat.reduceAdd]
                    refine wpList_store rfl (.tmp 107) (.tmp 109) (.tmp 110) 38 rfl 91 23 keP Tryz.underlying38 bg m (by rfl) (HM8.out.ext hz) ⟨gb, gl, gn, ga⟩ (by rfl) ⟨HG.out.2.1, HG.out.2.2.1, HG.out.2.2.2.1, HG.out.1⟩ (.agg #[.int .i64 ga, .int .i64 gb, .int .i64 gl, .string gn, .int .i64 gN, .int .i64 gt]) (by rfl) ?_
                    intro wf hmf hgf
                    have HMF := Lib.hid hmf; have HGF := Lib.hid hgf; have HZ := Lib.hid hz
                    clear hmf hgf hz hhz q8
                    go_wp2_with (fail)
                    go_ret
                    rw [HRR.out]
                    refine ⟨rfl, ?_⟩
                    have hkf : ∀ k, k < W8.heap.size → k ≠ bg → wf.heap[k]? = W8.heap[k]? := fun k hk hn => (HGF.out.block k (by have := HZ.out.size; omega) (fun e => hn (by injection e))).trans (HZ.out.block k hk)
                    have hw8 := HK8.out.size
                    have hbgp : bg ≠ p := fun e => by
                      obtain ⟨-, -, es, clock, hm0, -⟩ := HM8.out
                      rw [e, b8] at hm0
                      cases hm0
                    have hbl := HM8.out.lt
                    refine put_done HPW.out HFF.out HND.out HH1.out HH2.out HH3.out HH5.out HCV.out HR7.out HG.out HBG.out ((hkf p l8 (fun e => hbgp e.symm)).trans b8) ⟨_, HMF.out, fun k => ?_⟩ (row_of_block HR8.out (fun k hk => hkf k (HR8.out.lt k hk).2 (fun e => ?_))) HCB.out ⟨?_, ?_, ?_, ?_, fun k hk hn => ?_⟩ (fun k hk hkp hkm hkc => ?_)
                    · exact put_look (g := ⟨ga, gb, gl, gn, gN, gt⟩) HLK.out k
                    · obtain ⟨cs, hc⟩ := row_block HR8.out hk
                      obtain ⟨-, -, es, clock, hm0, -⟩ := HM8.out
                      rw [e, hm0] at hc
                      cases hc
                    · exact HGF.out.os.trans (HZ.out.os.trans HK8.out.os)
                    · exact HGF.out.tape.trans (HZ.out.tape.trans HK8.out.tape)
                    · exact HGF.out.output.trans (HZ.out.output.trans HK8.out.output)
                    · exact Nat.le_trans hw8 (Nat.le_trans HZ.out.size HGF.out.size)
                    · refine (hkf k (by omega) (fun e => hn ?_)).trans (HK8.out.block k hk hn)
                      rw [HFF.out, mem_blks, e]
                      exact .inr (.inr (.inr (.inr (.inl (HBG.out.old (by omega))))))
                    · refine (hkf k (by omega) (fun e => hkm ?_)).trans (HS8.out k hk hkp hkc)
                      exact (congrArg some e).trans (HBG.out.old (by omega)).symm
      · have hd' : b.dut ⟨ga, gb⟩ = false := by simpa using hd
        rw [hd'] at r3
        have HD := Lib.hid hd'; clear hd hd'
        go_quiet (fail)
        go_wp2_with (fail)
        have hr : giveR b ⟨ga, gb, gl, gn, gN, gt⟩ = (35, b) := by (rw [HGR.out, if_neg (by rw [HL.out]; decide), if_pos HD.out])
        rw [hr]
        go_ret
        exact ⟨rfl, GP.same HB.out (Ext.drewN hx3 _)⟩
  · have hl' : b.lots gl = false := by simpa using hl
    rw [hl'] at r1
    have HL := Lib.hid hl'; clear hl hl'
    go_quiet (fail)
    go_wp2_with (fail)
    have hr : giveR b ⟨ga, gb, gl, gn, gN, gt⟩ = (34, b) := by (rcases HCK.out with ⟨-, h⟩ | ⟨-, h⟩; exact giveR_none h; rw [giveR_some h, if_pos HL.out])
    rw [hr]
    go_ret
    exact ⟨rfl, GP.same HB.out (Ext.drewN hx2 _)⟩
end Go.Proofs.YtnplnfkmcfalhaaGreatDoor
