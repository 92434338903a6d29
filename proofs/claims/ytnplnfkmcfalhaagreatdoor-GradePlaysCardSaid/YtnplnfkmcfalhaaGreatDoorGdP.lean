/-
  Whole: all grades of a bidder. Conditions: what the reference's book and the list hold.
-/
import Derived.Test.YtnplnfkmcfalhaaGreatDoorGdO
import Derived.Lib.MinMax
namespace Go.Proofs.YtnplnfkmcfalhaaGreatDoor
set_option linter.unusedVariables false
set_option linter.unusedSimpArgs false
open Go.RowKit

/-- Where a duty's grades are kept. -/
def dutP (bid : Int) (L : List Int) (C : List Cr) (d : Dy) : List Pl := if d.bid = bid then L.flatMap fun l => C.map fun c => (⟨bid, l, c.name, d.ass⟩ : Pl) else []
def wholeP (D : List Dy) (bid : Int) (L : List Int) (C : List Cr) : List Pl := D.flatMap (dutP bid L C)
theorem wholeP_succ (D : List Dy) (bid : Int) (L : List Int) (C : List Cr) (i : Nat) (h : i < D.length) : wholeP (D.take (i + 1)) bid L C = wholeP (D.take i) bid L C ++ dutP bid L C D[i] := by
  unfold wholeP
  rw [List.take_succ_eq_append_getElem h, List.flatMap_append]
  simp
def NOk (C : List Cr) (g : Gd) : Prop := g.ok ∧ ∃ c ∈ C, c.name = g.name ∧ (g.n = c.low ∨ (c.low ≤ g.n ∧ g.n ≤ c.high))
/-- The grades that have been made. -/
def WhI (C : List Cr) (ps : List Pl) (gs : List Gd) : Prop := gs.map Gd.pl = ps ∧ ∀ g ∈ gs, NOk C g
theorem WhI.snoc {C : List Cr} {ps : List Pl} {gs : List Gd} (h : WhI C ps gs) {g : Gd} (hg : NOk C g) : WhI C (ps ++ [g.pl]) (gs ++ [g]) := by
  refine ⟨by rw [List.map_append, h.1]; rfl, fun x hx => ?_⟩
  rcases List.mem_append.1 hx with hx | hx
  · exact h.2 x hx
  · rw [List.mem_singleton] at hx; subst hx; exact hg
theorem RB.cells {B : Nat} {w : World} {p : Nat} {L : List Int} {C : List Cr} {D : List Dy} (h : RB B w p L C D) (hL : L.length ≤ 1000) (hC : C.length ≤ 1000) (hD : D.length ≤ 1000) (hLo : ∀ x ∈ L, OkI x) :
    ∃ lb lc cb cc db dc, w.cell? ⟨p, 0, none⟩ = some (.slice lb L.length lc) ∧ w.cell? ⟨p, 1, none⟩ = some (.slice cb C.length cc) ∧ w.cell? ⟨p, 2, none⟩ = some (.slice db D.length dc) ∧ p < w.heap.size ∧
      IRd w (.slice lb L.length lc) L ∧ SR Cr.cs 5 w (.slice cb C.length cc) C ∧ SR Dy.cs 2 w (.slice db D.length dc) D := by
  obtain ⟨vl, vc, vd, -, ⟨v3, v4, v5, h1⟩, h2, h3, h4⟩ := h
  obtain ⟨lb, lc, rfl⟩ := (SR.of_row (cs := celI) (fun _ => rfl) h2 (by omega)).form
  obtain ⟨cb, cc, rfl⟩ := (SR.of_row (cs := Cr.cs) (fun _ => rfl) h3 (by omega)).form
  obtain ⟨db, dc, rfl⟩ := (SR.of_row (cs := Dy.cs) (fun _ => rfl) h4 (by omega)).form
  obtain ⟨c0, c1, c2, hl, -⟩ := bcells h1
  exact ⟨lb, lc, cb, cc, db, dc, c0, c1, c2, hl, ird_row h2 hLo (by omega), SR.of_row (cs := Cr.cs) (fun _ => rfl) h3 (by omega), SR.of_row (cs := Dy.cs) (fun _ => rfl) h4 (by omega)⟩
theorem ird_at {w : World} {A : Option Addr} {n c : Nat} {l : List Int} (h : IRd w (.slice A n c) l) (k : Nat) (hk : k < l.length) : ∃ b off, A = some ⟨b, off, none⟩ ∧ w.cell? ⟨b, off + k, none⟩ = some (.int .i64 l[k]) ∧ OkI l[k] := by
  obtain ⟨A', c', e1, -, h2, hcell⟩ := h
  injection e1 with e1 e2 e3
  subst e1
  obtain ⟨b, o, hb, hc⟩ := hcell.resolve_left (by intro e; rw [e] at hk; simp at hk)
  exact ⟨b, o, hb, hc k hk, h2 _ (List.getElem_mem _)⟩

set_option maxRecDepth 100000 in
set_option maxHeartbeats 4000000 in
theorem Whole_any (B p : Nat) (L : List Int) (C : List Cr) (D : List Dy) (bid : Int) (v : Value) (l : List Int) (w : World) (h : RB B w p L C D) (hv : IRd w v l)
    (hL : L.length ≤ 3) (hC : C.length ≤ 4) (hD : D.length ≤ 9) (hLo : ∀ x ∈ L, OkI x) (hCo : ∀ c ∈ C, c.ok) (hDo : ∀ d ∈ D, OkD d) (hbid : OkI bid) :
    Calls Tryz.prog 23 #[.pointer (some ⟨p, 0, none⟩), .int .i64 bid, v] w fun e w' => ∃ r gs, e = .returned r ∧ w'.ownsRow w.heap.size 23 6 r gs.length (gs.flatMap Gd.cs) ∧ WhI C (wholeP D bid L C) gs ∧ gs.length ≤ 108 ∧ Ext w w' := by
  obtain ⟨va, vc, rfl, hvl, hvo, hvc⟩ := id hv
  obtain ⟨lb, lc, cb, cc, db, dc, e0, e1, e2, hp, hLR, hCR, hDR⟩ := h.cells (by omega) (by omega) (by omega) hLo
  have HV := Lib.hid hv; have HLR := Lib.hid hLR; have HCR := Lib.hid hCR; have HDR := Lib.hid hDR; have HCO := Lib.hid hCo; have HDO := Lib.hid hDo; have HLO := Lib.hid hLo; have HBID := Lib.hid hbid
  have HE : Hid (∀ W, Ext w W → W.cell? ⟨p, 0, none⟩ = some (.slice lb L.length lc) ∧ W.cell? ⟨p, 1, none⟩ = some (.slice cb C.length cc) ∧ W.cell? ⟨p, 2, none⟩ = some (.slice db D.length dc) ∧ p < W.heap.size) := Lib.hid fun W hW =>
    ⟨(hW.cells.1 _ _ (World.block_lt_of_cell? w _ e0)).trans e0, (hW.cells.1 _ _ (World.block_lt_of_cell? w _ e0)).trans e1, (hW.cells.1 _ _ (World.block_lt_of_cell? w _ e0)).trans e2, Nat.lt_of_lt_of_le hp hW.size⟩
  clear h hv hLR hCR hDR hCo hDo hLo hbid e0 e1 e2 hp hvo hvc
  go_enter Tryz.func23, Tryz.ntmps23
  go_upto_region 3 with (fail)
  go_loopw [7, 8] (fun o k wr => ∃ (i : Nat) (gs : List Gd), k = .int .i64 i ∧ i ≤ D.length ∧ wr.ownsRow w.heap.size 23 6 o gs.length (gs.flatMap Gd.cs) ∧ Hid (WhI C (wholeP (D.take i) bid L C) gs) ∧ gs.length ≤ i * 12 ∧ Ext w wr) (fun _ k _ => D.length - (iof k).toNat)
  case atStart => exact ⟨0, [], rfl, Nat.zero_le _, World.ownsRow_nil _ _ _ _, Lib.hid ⟨rfl, by simp⟩, by simp, Ext.refl _⟩
  case round =>
    obtain ⟨i, gs, rfl, hi, hrow, HI, hgl, hx⟩ := hrel
    obtain ⟨c0, c1, c2, hp⟩ := HE.out wr hx
    by_cases hil : i < D.length
    · obtain ⟨bd, rfl, hcell⟩ := row_at HDR.out i hil
      have d0 := hcell 0 _ rfl
      have d1 := hcell 1 _ rfl
      have HWS := Lib.hid (wholeP_succ D bid L C i hil)
      have HOD := Lib.hid (HDO.out _ (List.getElem_mem hil))
      clear hcell
      generalize D[i] = d at *
      obtain ⟨da, db'⟩ := d
      simp only [Nat.add_zero] at d0 d1
      have HX := Lib.hid hx
      have hsz := hx.size
      have HROW := Lib.hid hrow
      clear hx hrow
      go_upto_region 6 with (fail)
      obtain ⟨V, hV⟩ : ∃ V, V = wr := ⟨_, rfl⟩
      rw [← hV] at HX HROW c0 c1 c2 hp hsz ⊢
      have HD0 := Lib.hid d0; have HD1 := Lib.hid d1
      clear c0 c1 c2 hp d0 d1 hV
      generalize wholeP (D.take i) bid L C = ps at *
      go_loopw [7, 9] (fun o k wr => ∃ (j : Nat) (gt : List Gd), k = .int .i64 j ∧ j ≤ L.length ∧ wr.ownsRow w.heap.size 23 6 o gt.length (gt.flatMap Gd.cs) ∧ Hid (WhI C (ps ++ dutP bid (L.take j) C ⟨da, db'⟩) gt) ∧ (db' ≠ bid → j = 0) ∧ gt.length ≤ i * 12 + j * 4 ∧ Ext w wr) (fun _ k _ => L.length - (iof k).toNat)
      case atStart => exact ⟨0, gs, rfl, Nat.zero_le _, HROW.out, Lib.hid (by unfold dutP; split <;> simpa using HI.out), fun _ => rfl, by omega, HX.out⟩
      case round =>
        obtain ⟨j, gt, rfl, hj, hrow, HJ, hbj, hgl2, hx⟩ := hrel
        obtain ⟨c0, c1, c2, hp⟩ := HE.out wr hx
        have d0 := (hx.cells.1 _ _ (World.block_lt_of_cell? w _ HD0.out)).trans HD0.out
        have d1 := (hx.cells.1 _ _ (World.block_lt_of_cell? w _ HD1.out)).trans HD1.out
        have hbd := World.block_lt_of_cell? wr _ d0
        by_cases hjl : j < L.length
        · by_cases hbb : db' = bid
          · subst hbb
            obtain ⟨bl, ol, rfl, hcl, hlo⟩ := ird_at HLR.out j hjl
            have HLS : Hid (dutP db' (L.take (j + 1)) C ⟨da, db'⟩ = dutP db' (L.take j) C ⟨da, db'⟩ ++ C.map fun c => (⟨db', L[j], c.name, da⟩ : Pl)) := Lib.hid (by
              unfold dutP
              rw [if_pos rfl, if_pos rfl, List.take_succ_eq_append_getElem hjl, List.flatMap_append]
              simp)
            have HLC := Lib.hid hcl; have HLI := Lib.hid hlo
            clear hcl hlo
            generalize L[j] = lo at *
            have HX3 := Lib.hid hx
            have HROW3 := Lib.hid hrow
            have hsz3 := hx.size
            clear hx hrow
            go_upto_region 9 with (fail)
            obtain ⟨U, hU⟩ : ∃ U, U = wr := ⟨_, rfl⟩
            rw [← hU] at HX3 HROW3 hsz3 ⊢
            have HD3 := HD0
            clear c0 c1 c2 hp d0 d1 hbd hU
            generalize dutP db' (L.take j) C ⟨da, db'⟩ = ps2 at *
            go_loopw [7, 10] (fun o k wr => ∃ (m : Nat) (gu : List Gd), k = .int .i64 m ∧ m ≤ C.length ∧ wr.ownsRow w.heap.size 23 6 o gu.length (gu.flatMap Gd.cs) ∧ Hid (WhI C (ps ++ (ps2 ++ (C.take m).map fun c => (⟨db', lo, c.name, da⟩ : Pl))) gu) ∧ gu.length ≤ i * 12 + j * 4 + m ∧ Ext w wr) (fun _ k _ => C.length - (iof k).toNat)
            case atStart => exact ⟨0, gt, rfl, Nat.zero_le _, HROW3.out, Lib.hid (by simpa using HJ.out), by omega, HX3.out⟩
            case round =>
              obtain ⟨m, gu, rfl, hm, hrow, HM, hgl3, hx⟩ := hrel
              have hxw := hx
              obtain ⟨c0, c1, c2, hp⟩ := HE.out wr hxw
              have d0 := (hx.cells.1 _ _ (World.block_lt_of_cell? w _ HD3.out)).trans HD3.out
              have l0 := (hx.cells.1 _ _ (World.block_lt_of_cell? w _ HLC.out)).trans HLC.out
              have hbd := World.block_lt_of_cell? wr _ d0
              have hbl := World.block_lt_of_cell? wr _ l0
              by_cases hmc : m < C.length
              · obtain ⟨bc, rfl, hcell⟩ := row_at (HCR.out.ext hx) m hmc
                have q0 := hcell 0 _ rfl
                have q1 := hcell 1 _ rfl
                have q2 := hcell 2 _ rfl
                have q3 := hcell 3 _ rfl
                have q4 := hcell 4 _ rfl
                have HCS := Lib.hid (map_take_succ (fun c => (⟨db', lo, c.name, da⟩ : Pl)) C m hmc)
                have HCO2 := Lib.hid (HCO.out _ (List.getElem_mem hmc))
                have HMEM := Lib.hid (List.getElem_mem hmc)
                clear hcell
                generalize C[m] = c at *
                obtain ⟨cn, ck, clo, chi, cb'⟩ := c
                simp only [Nat.add_zero] at q0 q1 q2 q3 q4
                generalize (C.take m).map (fun c => (⟨db', lo, c.name, da⟩ : Pl)) = ps3 at *
                go_upto_region 12 with (fail)
                have hxa : Ext wr (wr.alloc (.cells #[.string cn, .int .i64 ck, .int .i64 clo, .int .i64 chi, .bool cb'] 73)) := Ext.alloc (Ext.refl _) _
                have hq := heap_alloc_new wr (.cells #[.string cn, .int .i64 ck, .int .i64 clo, .int .i64 chi, .bool cb'] 73)
                have HROW4 := Lib.hid (row_ext hrow hxa)
                have HX4 := Lib.hid (hx.trans hxa)
                have hsz4 := hxw.size
                clear c0 c1 c2 hp d0 l0 hbd hbl q0 q1 q2 q3 q4 hrow hx hxw
                obtain ⟨qv, hqv⟩ : ∃ qv, qv = wr.heap.size := ⟨_, rfl⟩
                rw [← hqv] at hq ⊢
                generalize wr.alloc (.cells #[.string cn, .int .i64 ck, .int .i64 clo, .int .i64 chi, .bool cb'] 73) = w4 at *
                have q0 := cell_of_row w4 qv 0 _ _ _ hq
                have q2 := cell_of_row w4 qv 2 _ _ _ hq
                have q3 := cell_of_row w4 qv 3 _ _ _ hq
                have ql := Rg.lt_of_heap hq
                have HQ4 := Lib.hid hq
                clear hq hxa hqv hsz4
                obtain ⟨hnm, hck, ⟨hlo1, hlo2⟩, hhi1, hhi2⟩ := HCO2.out
                simp only at hlo1 hlo2 hhi1 hhi2
                clear hnm hck
                obtain ⟨rb, rc, rfl⟩ := (SR.of_row (cs := Gd.cs) gd_len HROW4.out (by omega)).form
                by_cases hl0 : ¬ (0 : Int) < l.length
                · go_upto_region 15 with (fail)
                  obtain ⟨N, hN⟩ : ∃ N, N = clo := ⟨_, rfl⟩
                  have HNN : Hid (OkI N ∧ (N = clo ∨ (clo ≤ N ∧ N ≤ chi))) := Lib.hid ⟨by rw [hN]; exact ⟨hlo1, hlo2⟩, .inl hN⟩
                  rw [← hN]
                  obtain ⟨w5, hw5⟩ : ∃ w5, w5 = w4 := ⟨_, rfl⟩
                  have HQ5 := HQ4; have HX5 := HX4; have HROW5 := HROW4
                  rw [← hw5] at HQ5 HX5 HROW5 ⊢
                  clear hw5 hN q2 q3 ql
                  have q0 := cell_of_row w5 qv 0 _ _ _ HQ5.out
                  have ql := Rg.lt_of_heap HQ5.out
                  obtain ⟨c0, c1, c2, hp⟩ := HE.out w5 HX5.out
                  have d0 := (HX5.out.cells.1 _ _ (World.block_lt_of_cell? w _ HD3.out)).trans HD3.out
                  have l0 := (HX5.out.cells.1 _ _ (World.block_lt_of_cell? w _ HLC.out)).trans HLC.out
                  have hbd := World.block_lt_of_cell? w5 _ d0
                  have hbl := World.block_lt_of_cell? w5 _ l0
                  have hsz5 := HX5.out.size
                  have HSZ := Lib.hid hsz5
                  clear hsz5
                  refine Rr.wp_region [(0, .y), (1, .y), (2, .y), (3, .y), (4, .y), (5, .y), (6, .y), (7, .y), (8, .y), (9, .y), (10, .y), (11, .y), (12, .y), (13, .y), (14, .y), (15, .y), (16, .y), (17, .y), (18, .y), (19, .y), (20, .y), (21, .y), (22, .y), (23, .m)] (fun _ => (.cells #[.int .i64 da, .int .i64 db', .int .i64 lo, .string cn, .int .i64 N, .int .i64 gu.length] 23, fun p => .slice (some ⟨p, 0, none⟩) 1 1)) (by kernel_rfl) (by kernel_rfl) ?_
                  (refine Rr.wr_y (by simp only [List.getElem?_toArray, List.getElem?_cons_succ, List.getElem?_cons_zero]; rfl) (by rfl) ?_
                   apply Exists.intro
                   refine ⟨fun wz hw _ => ?_, ?_⟩
                   · have hcz := hw.cells.1
                     go_simp
                     (with_reducible exact Rg.up_value)
                   simp only [Act.put, List.setIfInBounds_toArray, List.set_cons_zero, List.set_cons_succ])
                  (refine Rr.wr_y (by simp only [List.getElem?_toArray, List.getElem?_cons_succ, List.getElem?_cons_zero]; rfl) (by rfl) ?_
                   apply Exists.intro
                   refine ⟨fun wz hw _ => ?_, ?_⟩
                   · have hcz := hw.cells.1
                     go_simp
                     (with_reducible exact Rg.up_value)
                   simp only [Act.put, List.setIfInBounds_toArray, List.set_cons_zero, List.set_cons_succ])
                  (refine Rr.wr_y (by simp only [List.getElem?_toArray, List.getElem?_cons_succ, List.getElem?_cons_zero]; rfl) (by rfl) ?_
                   apply Exists.intro
                   refine ⟨fun wz hw _ => ?_, ?_⟩
                   · have hcz := hw.cells.1
                     go_simp
                     (with_reducible exact Rg.up_value)
                   simp only [Act.put, List.setIfInBounds_toArray, List.set_cons_zero, List.set_cons_succ])
                  (refine Rr.wr_y (by simp only [List.getElem?_toArray, List.getElem?_cons_succ, List.getElem?_cons_zero]; rfl) (by rfl) ?_
                   apply Exists.intro
                   refine ⟨fun wz hw _ => ?_, ?_⟩
                   · have hcz := hw.cells.1
                     go_simp
                     (with_reducible exact Rg.up_value)
                   simp only [Act.put, List.setIfInBounds_toArray, List.set_cons_zero, List.set_cons_succ])
                  (refine Rr.wr_y (by simp only [List.getElem?_toArray, List.getElem?_cons_succ, List.getElem?_cons_zero]; rfl) (by rfl) ?_
                   apply Exists.intro
                   refine ⟨fun wz hw _ => ?_, ?_⟩
                   · have hcz := hw.cells.1
                     go_simp
                     (with_reducible exact Rg.up_value)
                   simp only [Act.put, List.setIfInBounds_toArray, List.set_cons_zero, List.set_cons_succ])
                  (refine Rr.wr_y (by simp only [List.getElem?_toArray, List.getElem?_cons_succ, List.getElem?_cons_zero]; rfl) (by rfl) ?_
                   apply Exists.intro
                   refine ⟨fun wz hw _ => ?_, ?_⟩
                   · have hcz := hw.cells.1
                     go_simp
                     (with_reducible exact Rg.up_value)
                   simp only [Act.put, List.setIfInBounds_toArray, List.set_cons_zero, List.set_cons_succ])
                  (refine Rr.wr_y (by simp only [List.getElem?_toArray, List.getElem?_cons_succ, List.getElem?_cons_zero]; rfl) (by rfl) ?_
                   apply Exists.intro
                   refine ⟨fun wz hw _ => ?_, ?_⟩
                   · have hcz := hw.cells.1
                     go_simp
                     (with_reducible exact Rg.up_value)
                   simp only [Act.put, List.setIfInBounds_toArray, List.set_cons_zero, List.set_cons_succ])
                  (refine Rr.wr_y (by simp only [List.getElem?_toArray, List.getElem?_cons_succ, List.getElem?_cons_zero]; rfl) (by rfl) ?_
                   apply Exists.intro
                   refine ⟨fun wz hw _ => ?_, ?_⟩
                   · have hcz := hw.cells.1
                     go_simp
                     (with_reducible exact Rg.up_value)
                   simp only [Act.put, List.setIfInBounds_toArray, List.set_cons_zero, List.set_cons_succ])
                  (refine Rr.wr_y (by simp only [List.getElem?_toArray, List.getElem?_cons_succ, List.getElem?_cons_zero]; rfl) (by rfl) ?_
                   apply Exists.intro
                   refine ⟨fun wz hw _ => ?_, ?_⟩
                   · have hcz := hw.cells.1
                     go_simp
                     (with_reducible exact Rg.up_value)
                   simp only [Act.put, List.setIfInBounds_toArray, List.set_cons_zero, List.set_cons_succ])
                  (refine Rr.wr_y (by simp only [List.getElem?_toArray, List.getElem?_cons_succ, List.getElem?_cons_zero]; rfl) (by rfl) ?_
                   apply Exists.intro
                   refine ⟨fun wz hw _ => ?_, ?_⟩
                   · have hcz := hw.cells.1
                     go_simp
                     (with_reducible exact Rg.up_value)
                   simp only [Act.put, List.setIfInBounds_toArray, List.set_cons_zero, List.set_cons_succ])
                  (refine Rr.wr_y (by simp only [List.getElem?_toArray, List.getElem?_cons_succ, List.getElem?_cons_zero]; rfl) (by rfl) ?_
                   apply Exists.intro
                   refine ⟨fun wz hw _ => ?_, ?_⟩
                   · have hcz := hw.cells.1
                     go_simp
                     (with_reducible exact Rg.up_value)
                   simp only [Act.put, List.setIfInBounds_toArray, List.set_cons_zero, List.set_cons_succ])
                  (refine Rr.wr_y (by simp only [List.getElem?_toArray, List.getElem?_cons_succ, List.getElem?_cons_zero]; rfl) (by rfl) ?_
                   apply Exists.intro
                   refine ⟨fun wz hw _ => ?_, ?_⟩
                   · have hcz := hw.cells.1
                     go_simp
                     (with_reducible exact Rg.up_value)
                   simp only [Act.put, List.setIfInBounds_toArray, List.set_cons_zero, List.set_cons_succ])
                  (refine Rr.wr_y (by simp only [List.getElem?_toArray, List.getElem?_cons_succ, List.getElem?_cons_zero]; rfl) (by rfl) ?_
                   apply Exists.intro
                   refine ⟨fun wz hw _ => ?_, ?_⟩
                   · have hcz := hw.cells.1
                     go_simp
                     (with_reducible exact Rg.up_value)
                   simp only [Act.put, List.setIfInBounds_toArray, List.set_cons_zero, List.set_cons_succ])
                  (refine Rr.wr_y (by simp only [List.getElem?_toArray, List.getElem?_cons_succ, List.getElem?_cons_zero]; rfl) (by rfl) ?_
                   apply Exists.intro
                   refine ⟨fun wz hw _ => ?_, ?_⟩
                   · have hcz := hw.cells.1
                     go_simp
                     (with_reducible exact Rg.up_value)
                   simp only [Act.put, List.setIfInBounds_toArray, List.set_cons_zero, List.set_cons_succ])
                  (refine Rr.wr_y (by simp only [List.getElem?_toArray, List.getElem?_cons_succ, List.getElem?_cons_zero]; rfl) (by rfl) ?_
                   apply Exists.intro
                   refine ⟨fun wz hw _ => ?_, ?_⟩
                   · have hcz := hw.cells.1
                     go_simp
                     (with_reducible exact Rg.up_value)
                   simp only [Act.put, List.setIfInBounds_toArray, List.set_cons_zero, List.set_cons_succ])
                  (refine Rr.wr_y (by simp only [List.getElem?_toArray, List.getElem?_cons_succ, List.getElem?_cons_zero]; rfl) (by rfl) ?_
                   apply Exists.intro
                   refine ⟨fun wz hw _ => ?_, ?_⟩
                   · have hcz := hw.cells.1
                     go_simp
                     (with_reducible exact Rg.up_value)
                   simp only [Act.put, List.setIfInBounds_toArray, List.set_cons_zero, List.set_cons_succ])
                  (refine Rr.wr_y (by simp only [List.getElem?_toArray, List.getElem?_cons_succ, List.getElem?_cons_zero]; rfl) (by rfl) ?_
                   apply Exists.intro
                   refine ⟨fun wz hw _ => ?_, ?_⟩
                   · have hcz := hw.cells.1
                     go_simp
                     (with_reducible exact Rg.up_value)
                   simp only [Act.put, List.setIfInBounds_toArray, List.set_cons_zero, List.set_cons_succ])
                  (refine Rr.wr_y (by simp only [List.getElem?_toArray, List.getElem?_cons_succ, List.getElem?_cons_zero]; rfl) (by rfl) ?_
                   apply Exists.intro
                   refine ⟨fun wz hw _ => ?_, ?_⟩
                   · have hcz := hw.cells.1
                     go_simp
                     (with_reducible exact Rg.up_value)
                   simp only [Act.put, List.setIfInBounds_toArray, List.set_cons_zero, List.set_cons_succ])
                  (refine Rr.wr_y (by simp only [List.getElem?_toArray, List.getElem?_cons_succ, List.getElem?_cons_zero]; rfl) (by rfl) ?_
                   apply Exists.intro
                   refine ⟨fun wz hw _ => ?_, ?_⟩
                   · have hcz := hw.cells.1
                     go_simp
                     (with_reducible exact Rg.up_value)
                   simp only [Act.put, List.setIfInBounds_toArray, List.set_cons_zero, List.set_cons_succ])
                  (refine Rr.wr_y (by simp only [List.getElem?_toArray, List.getElem?_cons_succ, List.getElem?_cons_zero]; rfl) (by rfl) ?_
                   apply Exists.intro
                   refine ⟨fun wz hw _ => ?_, ?_⟩
                   · have hcz := hw.cells.1
                     go_simp
                     (with_reducible exact Rg.up_value)
                   simp only [Act.put, List.setIfInBounds_toArray, List.set_cons_zero, List.set_cons_succ])
                  (refine Rr.wr_y (by simp only [List.getElem?_toArray, List.getElem?_cons_succ, List.getElem?_cons_zero]; rfl) (by rfl) ?_
                   apply Exists.intro
                   refine ⟨fun wz hw _ => ?_, ?_⟩
                   · have hcz := hw.cells.1
                     go_simp
                     (with_reducible exact Rg.up_value)
                   simp only [Act.put, List.setIfInBounds_toArray, List.set_cons_zero, List.set_cons_succ])
                  (refine Rr.wr_y (by simp only [List.getElem?_toArray, List.getElem?_cons_succ, List.getElem?_cons_zero]; rfl) (by rfl) ?_
                   apply Exists.intro
                   refine ⟨fun wz hw _ => ?_, ?_⟩
                   · have hcz := hw.cells.1
                     go_simp
                     (with_reducible exact Rg.up_value)
                   simp only [Act.put, List.setIfInBounds_toArray, List.set_cons_zero, List.set_cons_succ])
                  (refine Rr.wr_y (by simp only [List.getElem?_toArray, List.getElem?_cons_succ, List.getElem?_cons_zero]; rfl) (by rfl) ?_
                   apply Exists.intro
                   refine ⟨fun wz hw _ => ?_, ?_⟩
                   · have hcz := hw.cells.1
                     go_simp
                     (with_reducible exact Rg.up_value)
                   simp only [Act.put, List.setIfInBounds_toArray, List.set_cons_zero, List.set_cons_succ])
                  refine Rr.wr_m (by simp only [List.getElem?_toArray, List.getElem?_cons_succ, List.getElem?_cons_zero]; rfl) (by rfl) (fun wz => by go_simp) (fun pn hpn => ?_)
                  simp only [Act.put, List.setIfInBounds_toArray, List.set_cons_zero, List.set_cons_succ]
                  refine Rr.wr_nil ?_
                  intro wy6 hy6 hh6
                  obtain ⟨-, hb2⟩ := hh6 _ List.mem_cons_self
                  simp only [List.length_cons, List.length_nil, List.drop_succ_cons, List.drop_zero, Nat.reduceAdd]
                  have HP := Lib.hid hb2; have HY := Lib.hid hy6
                  clear hh6 hb2 hy6
                  refine append_g (cs := Gd.cs) (z := .agg #[.int .i64 0, .int .i64 0, .int .i64 0, .string ⟨#[]⟩, .int .i64 0, .int .i64 0]) 32 23 56 Tryz.underlying32 (by kernel_rfl) (by rfl) (by decide) (by decide) rfl (.tmp 98) (.tmp 121) rfl w.heap.size (.slice rb gu.length rc) gu (by rfl) (row_ext HROW5.out HY.out) pn ⟨da, db', lo, cn, N, gu.length⟩ ⟨rfl, by simp [Gd.cs, Value.oneCell']⟩ (by rfl) HP.out (by omega) (by have := HY.out.size; have := HSZ.out; omega) ?_
                  intro g cap w7 hr7 hg7 hat7
                  have HR7 := Lib.hid hr7
                  have HX7 : Hid (Ext w w7) := Lib.hid (Below.trans (HX5.out.trans HY.out) ⟨hg7.os, hg7.tape, hg7.output, hg7.size, fun k hk => hg7.block k (by have := (HX5.out.trans HY.out).size; omega) (fun e => by have := ((row_ext HROW5.out HY.out).lt k e.symm).1; omega)⟩)
                  clear hr7 hg7 hat7 q0 ql c0 c1 c2 hp d0 l0 hbd hbl
                  go_wp2_with (fail)
                  refine ⟨⟨m + 1, gu ++ [⟨da, db', lo, cn, N, gu.length⟩], by simp, by omega, by simpa using HR7.out, Lib.hid ?_, by simp; omega, HX7.out⟩, by simp [iof]; omega⟩
                  rw [HCS.out]
                  have hh := HM.out.snoc (g := ⟨da, db', lo, cn, N, gu.length⟩) ⟨⟨HOD.out.1, HOD.out.2, HLI.out, HCO2.out.1, HNN.out.1, okI_small (z := (gu.length : Int)) (by omega)⟩, _, HMEM.out, rfl, HNN.out.2⟩
                  simp only [List.append_assoc] at hh ⊢
                  exact hh
                · by_cases hhl : clo < chi
                  · by_cases hdd : chi - clo ≤ 9223372036854775807
                    · have hlp : 0 < l.length := by omega
                      have kw : IntKind.i64.wrap (chi - clo) = chi - clo := by rw [IntKind.wrap_i64]; omega
                      go_upto_region 14 with (fail)
                      have hmod : ((gu.length : Int)).tmod (l.length : Int) = ((gu.length % l.length : Nat) : Int) := by
                        rw [Int.tmod_eq_emod_of_nonneg (by omega)]; omega
                      have hjj : gu.length % l.length < l.length := Nat.mod_lt _ hlp
                      obtain ⟨vb, vo, rfl, hcl, hlo3⟩ := ird_at HV.out _ hjj
                      have e4 := (HX4.out.cells.1 _ _ (World.block_lt_of_cell? w _ hcl)).trans hcl
                      have el := World.block_lt_of_cell? w4 _ e4
                      have hnz : ¬ (l.length : Int) = 0 := by omega
                      have hnn : ¬ l = [] := by intro e; rw [e] at hlp; simp at hlp
                      have hjn : ((gu.length % l.length : Nat) : Int) < l.length := by omega
                      generalize l[gu.length % l.length] = x at *
                      generalize gu.length % l.length = jj at *
                      clear hcl hjj
                      have kw2 : IntKind.i64.wrap (min (chi - clo) 1000 + 1) = min (chi - clo) 1000 + 1 := by rw [IntKind.wrap_i64]; omega
                      have HMD := Lib.hid (fun wz => Mod_any x (min (chi - clo) 1000 + 1) (by omega) (by omega) hlo3 wz)
                      have hb := modZ_bd x (m := min (chi - clo) 1000 + 1) (by omega)
                      generalize modZ x (min (chi - clo) 1000 + 1) = r at *
                      have kw3 : IntKind.i64.wrap (clo + r) = clo + r := by rw [IntKind.wrap_i64]; omega
                      refine Rr.wp_region ((List.range 19).map (fun i => (i, .y))) (fun _ => (.cells #[] 29, Rg.ptr)) (by kernel_rfl) (by kernel_rfl) ?_
                      simp only [List.range, List.range.loop, List.map_cons, List.map_nil]
                      (refine Rr.wr_y (by simp only [List.getElem?_toArray, List.getElem?_cons_succ, List.getElem?_cons_zero]; rfl) (by rfl) ?_
                       apply Exists.intro
                       refine ⟨fun wz hw _ => ?_, ?_⟩
                       · have hcz := hw.cells.1
                         go_simp
                         (with_reducible exact Rg.up_value)
                       simp only [Act.put, List.setIfInBounds_toArray, List.set_cons_zero, List.set_cons_succ])
                      (refine Rr.wr_y (by simp only [List.getElem?_toArray, List.getElem?_cons_succ, List.getElem?_cons_zero]; rfl) (by rfl) ?_
                       apply Exists.intro
                       refine ⟨fun wz hw _ => ?_, ?_⟩
                       · have hcz := hw.cells.1
                         go_simp
                         (with_reducible exact Rg.up_value)
                       simp only [Act.put, List.setIfInBounds_toArray, List.set_cons_zero, List.set_cons_succ])
                      (refine Rr.wr_y (by simp only [List.getElem?_toArray, List.getElem?_cons_succ, List.getElem?_cons_zero]; rfl) (by rfl) ?_
                       apply Exists.intro
                       refine ⟨fun wz hw _ => ?_, ?_⟩
                       · have hcz := hw.cells.1
                         go_simp
                         (with_reducible exact Rg.up_value)
                       simp only [Act.put, List.setIfInBounds_toArray, List.set_cons_zero, List.set_cons_succ])
                      (refine Rr.wr_y (by simp only [List.getElem?_toArray, List.getElem?_cons_succ, List.getElem?_cons_zero]; rfl) (by rfl) ?_
                       apply Exists.intro
                       refine ⟨fun wz hw _ => ?_, ?_⟩
                       · have hcz := hw.cells.1
                         go_simp
                         (with_reducible exact Rg.up_value)
                       simp only [Act.put, List.setIfInBounds_toArray, List.set_cons_zero, List.set_cons_succ])
                      (refine Rr.wr_y (by simp only [List.getElem?_toArray, List.getElem?_cons_succ, List.getElem?_cons_zero]; rfl) (by rfl) ?_
                       apply Exists.intro
                       refine ⟨fun wz hw _ => ?_, ?_⟩
                       · have hcz := hw.cells.1
                         go_simp
                         (with_reducible exact Rg.up_value)
                       simp only [Act.put, List.setIfInBounds_toArray, List.set_cons_zero, List.set_cons_succ])
                      (refine Rr.wr_y (by simp only [List.getElem?_toArray, List.getElem?_cons_succ, List.getElem?_cons_zero]; rfl) (by rfl) ?_
                       apply Exists.intro
                       refine ⟨fun wz hw _ => ?_, ?_⟩
                       · have hcz := hw.cells.1
                         go_simp
                         (with_reducible exact Rg.up_value)
                       simp only [Act.put, List.setIfInBounds_toArray, List.set_cons_zero, List.set_cons_succ])
                      (refine Rr.wr_y (by simp only [List.getElem?_toArray, List.getElem?_cons_succ, List.getElem?_cons_zero]; rfl) (by rfl) ?_
                       apply Exists.intro
                       refine ⟨fun wz hw _ => ?_, ?_⟩
                       · have hcz := hw.cells.1
                         go_simp
                         (with_reducible exact Rg.up_value)
                       simp only [Act.put, List.setIfInBounds_toArray, List.set_cons_zero, List.set_cons_succ])
                      (refine Rr.wr_y (by simp only [List.getElem?_toArray, List.getElem?_cons_succ, List.getElem?_cons_zero]; rfl) (by rfl) ?_
                       apply Exists.intro
                       refine ⟨fun wz hw _ => ?_, ?_⟩
                       · have hcz := hw.cells.1
                         go_simp
                         (with_reducible exact Rg.up_value)
                       simp only [Act.put, List.setIfInBounds_toArray, List.set_cons_zero, List.set_cons_succ])
                      (refine Rr.wr_y (by simp only [List.getElem?_toArray, List.getElem?_cons_succ, List.getElem?_cons_zero]; rfl) (by rfl) ?_
                       apply Exists.intro
                       refine ⟨fun wz hw _ => ?_, ?_⟩
                       · have hcz := hw.cells.1
                         go_simp
                         (with_reducible exact Rg.up_value)
                       simp only [Act.put, List.setIfInBounds_toArray, List.set_cons_zero, List.set_cons_succ])
                      (refine Rr.wr_y (by simp only [List.getElem?_toArray, List.getElem?_cons_succ, List.getElem?_cons_zero]; rfl) (by rfl) ?_
                       apply Exists.intro
                       refine ⟨fun wz hw _ => ?_, ?_⟩
                       · have hcz := hw.cells.1
                         go_simp
                         (with_reducible exact Rg.up_value)
                       simp only [Act.put, List.setIfInBounds_toArray, List.set_cons_zero, List.set_cons_succ])
                      (refine Rr.wr_y (by simp only [List.getElem?_toArray, List.getElem?_cons_succ, List.getElem?_cons_zero]; rfl) (by rfl) ?_
                       apply Exists.intro
                       refine ⟨fun wz hw _ => ?_, ?_⟩
                       · have hcz := hw.cells.1
                         go_simp
                         (with_reducible exact Rg.up_value)
                       simp only [Act.put, List.setIfInBounds_toArray, List.set_cons_zero, List.set_cons_succ])
                      (refine Rr.wr_y (by simp only [List.getElem?_toArray, List.getElem?_cons_succ, List.getElem?_cons_zero]; rfl) (by rfl) ?_
                       apply Exists.intro
                       refine ⟨fun wz hw _ => ?_, ?_⟩
                       · have hcz := hw.cells.1
                         go_simp
                         (with_reducible exact Rg.up_value)
                       simp only [Act.put, List.setIfInBounds_toArray, List.set_cons_zero, List.set_cons_succ])
                      (refine Rr.wr_y (by simp only [List.getElem?_toArray, List.getElem?_cons_succ, List.getElem?_cons_zero]; rfl) (by rfl) ?_
                       apply Exists.intro
                       refine ⟨fun wz hw _ => ?_, ?_⟩
                       · have hcz := hw.cells.1
                         go_simp
                         (with_reducible exact Rg.up_value)
                       simp only [Act.put, List.setIfInBounds_toArray, List.set_cons_zero, List.set_cons_succ])
                      (refine Rr.wr_y (by simp only [List.getElem?_toArray, List.getElem?_cons_succ, List.getElem?_cons_zero]; rfl) (by rfl) ?_
                       apply Exists.intro
                       refine ⟨fun wz hw _ => ?_, ?_⟩
                       · have hcz := hw.cells.1
                         go_simp
                         (with_reducible exact Rg.up_value)
                       simp only [Act.put, List.setIfInBounds_toArray, List.set_cons_zero, List.set_cons_succ])
                      (refine Rr.wr_y (by simp only [List.getElem?_toArray, List.getElem?_cons_succ, List.getElem?_cons_zero]; rfl) (by rfl) ?_
                       apply Exists.intro
                       refine ⟨fun wz hw _ => ?_, ?_⟩
                       · have hcz := hw.cells.1
                         go_simp
                         (with_reducible exact Rg.up_value)
                       simp only [Act.put, List.setIfInBounds_toArray, List.set_cons_zero, List.set_cons_succ])
                      (refine Rr.wr_y (by simp only [List.getElem?_toArray, List.getElem?_cons_succ, List.getElem?_cons_zero]; rfl) (by rfl) ?_
                       apply Exists.intro
                       refine ⟨fun wz hw _ => ?_, ?_⟩
                       · have hcz := hw.cells.1
                         go_simp
                         (with_reducible exact Rg.up_value)
                       simp only [Act.put, List.setIfInBounds_toArray, List.set_cons_zero, List.set_cons_succ])
                      (refine Rr.wr_y (by simp only [List.getElem?_toArray, List.getElem?_cons_succ, List.getElem?_cons_zero]; rfl) (by rfl) ?_
                       apply Exists.intro
                       refine ⟨fun wz hw _ => ?_, ?_⟩
                       · have hcz := hw.cells.1
                         go_simp
                         (with_reducible exact Rg.up_value)
                       simp only [Act.put, List.setIfInBounds_toArray, List.set_cons_zero, List.set_cons_succ])
                      (refine Rr.wr_y (by simp only [List.getElem?_toArray, List.getElem?_cons_succ, List.getElem?_cons_zero]; rfl) (by rfl) ?_
                       apply Exists.intro
                       refine ⟨fun wz hw _ => ?_, ?_⟩
                       · have hcz := hw.cells.1
                         go_simp
                         apply Rg.up_enter
                         (with_reducible refine (HMD.out _).mono ?_)
                         rintro e w3 ⟨rfl, hb3⟩
                         exact ⟨rfl, hb3⟩
                       simp only [Act.put, List.setIfInBounds_toArray, List.set_cons_zero, List.set_cons_succ])
                      (refine Rr.wr_y (by simp only [List.getElem?_toArray, List.getElem?_cons_succ, List.getElem?_cons_zero]; rfl) (by rfl) ?_
                       apply Exists.intro
                       refine ⟨fun wz hw _ => ?_, ?_⟩
                       · have hcz := hw.cells.1
                         go_simp
                         (with_reducible exact Rg.up_value)
                       simp only [Act.put, List.setIfInBounds_toArray, List.set_cons_zero, List.set_cons_succ])
                      refine Rr.wr_nil ?_
                      intro wy hy hh
                      simp only [List.length_cons, List.length_nil, List.drop_succ_cons, List.drop_zero, Nat.reduceAdd]
                      clear hh
                      have HQ5 := Lib.hid (keep_heap hy HQ4.out); have HX5 := Lib.hid (HX4.out.trans hy); have HROW5 := Lib.hid (row_ext HROW4.out hy)
                      obtain ⟨N, hN⟩ : ∃ N, N = clo + r := ⟨_, rfl⟩
                      have HNN : Hid (OkI N ∧ (N = clo ∨ (clo ≤ N ∧ N ≤ chi))) := Lib.hid ⟨⟨by omega, by omega⟩, .inr ⟨by omega, by omega⟩⟩
                      rw [← hN]
                      clear hN q2 q3 ql e4 el hjn hnz hnn hmod kw kw2 kw3 hb hy
                      go_upto_region 15 with (fail)
                      obtain ⟨w5, hw5⟩ : ∃ w5, w5 = wy := ⟨_, rfl⟩
                      rw [← hw5] at HQ5 HX5 HROW5 ⊢
                      clear hw5
                      have q0 := cell_of_row w5 qv 0 _ _ _ HQ5.out
                      have ql := Rg.lt_of_heap HQ5.out
                      obtain ⟨c0, c1, c2, hp⟩ := HE.out w5 HX5.out
                      have d0 := (HX5.out.cells.1 _ _ (World.block_lt_of_cell? w _ HD3.out)).trans HD3.out
                      have l0 := (HX5.out.cells.1 _ _ (World.block_lt_of_cell? w _ HLC.out)).trans HLC.out
                      have hbd := World.block_lt_of_cell? w5 _ d0
                      have hbl := World.block_lt_of_cell? w5 _ l0
                      have hsz5 := HX5.out.size
                      have HSZ := Lib.hid hsz5
                      clear hsz5
                      refine Rr.wp_region [(0, .y), (1, .y), (2, .y), (3, .y), (4, .y), (5, .y), (6, .y), (7, .y), (8, .y), (9, .y), (10, .y), (11, .y), (12, .y), (13, .y), (14, .y), (15, .y), (16, .y), (17, .y), (18, .y), (19, .y), (20, .y), (21, .y), (22, .y), (23, .m)] (fun _ => (.cells #[.int .i64 da, .int .i64 db', .int .i64 lo, .string cn, .int .i64 N, .int .i64 gu.length] 23, fun p => .slice (some ⟨p, 0, none⟩) 1 1)) (by kernel_rfl) (by kernel_rfl) ?_
                      (refine Rr.wr_y (by simp only [List.getElem?_toArray, List.getElem?_cons_succ, List.getElem?_cons_zero]; rfl) (by rfl) ?_
                       apply Exists.intro
                       refine ⟨fun wz hw _ => ?_, ?_⟩
                       · have hcz := hw.cells.1
                         go_simp
                         (with_reducible exact Rg.up_value)
                       simp only [Act.put, List.setIfInBounds_toArray, List.set_cons_zero, List.set_cons_succ])
                      (refine Rr.wr_y (by simp only [List.getElem?_toArray, List.getElem?_cons_succ, List.getElem?_cons_zero]; rfl) (by rfl) ?_
                       apply Exists.intro
                       refine ⟨fun wz hw _ => ?_, ?_⟩
                       · have hcz := hw.cells.1
                         go_simp
                         (with_reducible exact Rg.up_value)
                       simp only [Act.put, List.setIfInBounds_toArray, List.set_cons_zero, List.set_cons_succ])
                      (refine Rr.wr_y (by simp only [List.getElem?_toArray, List.getElem?_cons_succ, List.getElem?_cons_zero]; rfl) (by rfl) ?_
                       apply Exists.intro
                       refine ⟨fun wz hw _ => ?_, ?_⟩
                       · have hcz := hw.cells.1
                         go_simp
                         (with_reducible exact Rg.up_value)
                       simp only [Act.put, List.setIfInBounds_toArray, List.set_cons_zero, List.set_cons_succ])
                      (refine Rr.wr_y (by simp only [List.getElem?_toArray, List.getElem?_cons_succ, List.getElem?_cons_zero]; rfl) (by rfl) ?_
                       apply Exists.intro
                       refine ⟨fun wz hw _ => ?_, ?_⟩
                       · have hcz := hw.cells.1
                         go_simp
                         (with_reducible exact Rg.up_value)
                       simp only [Act.put, List.setIfInBounds_toArray, List.set_cons_zero, List.set_cons_succ])
                      (refine Rr.wr_y (by simp only [List.getElem?_toArray, List.getElem?_cons_succ, List.getElem?_cons_zero]; rfl) (by rfl) ?_
                       apply Exists.intro
                       refine ⟨fun wz hw _ => ?_, ?_⟩
                       · have hcz := hw.cells.1
                         go_simp
                         (with_reducible exact Rg.up_value)
                       simp only [Act.put, List.setIfInBounds_toArray, List.set_cons_zero, List.set_cons_succ])
                      (refine Rr.wr_y (by simp only [List.getElem?_toArray, List.getElem?_cons_succ, List.getElem?_cons_zero]; rfl) (by rfl) ?_
                       apply Exists.intro
                       refine ⟨fun wz hw _ => ?_, ?_⟩
                       · have hcz := hw.cells.1
                         go_simp
                         (with_reducible exact Rg.up_value)
                       simp only [Act.put, List.setIfInBounds_toArray, List.set_cons_zero, List.set_cons_succ])
                      (refine Rr.wr_y (by simp only [List.getElem?_toArray, List.getElem?_cons_succ, List.getElem?_cons_zero]; rfl) (by rfl) ?_
                       apply Exists.intro
                       refine ⟨fun wz hw _ => ?_, ?_⟩
                       · have hcz := hw.cells.1
                         go_simp
                         (with_reducible exact Rg.up_value)
                       simp only [Act.put, List.setIfInBounds_toArray, List.set_cons_zero, List.set_cons_succ])
                      (refine Rr.wr_y (by simp only [List.getElem?_toArray, List.getElem?_cons_succ, List.getElem?_cons_zero]; rfl) (by rfl) ?_
                       apply Exists.intro
                       refine ⟨fun wz hw _ => ?_, ?_⟩
                       · have hcz := hw.cells.1
                         go_simp
                         (with_reducible exact Rg.up_value)
                       simp only [Act.put, List.setIfInBounds_toArray, List.set_cons_zero, List.set_cons_succ])
                      (refine Rr.wr_y (by simp only [List.getElem?_toArray, List.getElem?_cons_succ, List.getElem?_cons_zero]; rfl) (by rfl) ?_
                       apply Exists.intro
                       refine ⟨fun wz hw _ => ?_, ?_⟩
                       · have hcz := hw.cells.1
                         go_simp
                         (with_reducible exact Rg.up_value)
                       simp only [Act.put, List.setIfInBounds_toArray, List.set_cons_zero, List.set_cons_succ])
                      (refine Rr.wr_y (by simp only [List.getElem?_toArray, List.getElem?_cons_succ, List.getElem?_cons_zero]; rfl) (by rfl) ?_
                       apply Exists.intro
                       refine ⟨fun wz hw _ => ?_, ?_⟩
                       · have hcz := hw.cells.1
                         go_simp
                         (with_reducible exact Rg.up_value)
                       simp only [Act.put, List.setIfInBounds_toArray, List.set_cons_zero, List.set_cons_succ])
                      (refine Rr.wr_y (by simp only [List.getElem?_toArray, List.getElem?_cons_succ, List.getElem?_cons_zero]; rfl) (by rfl) ?_
                       apply Exists.intro
                       refine ⟨fun wz hw _ => ?_, ?_⟩
                       · have hcz := hw.cells.1
                         go_simp
                         (with_reducible exact Rg.up_value)
                       simp only [Act.put, List.setIfInBounds_toArray, List.set_cons_zero, List.set_cons_succ])
                      (refine Rr.wr_y (by simp only [List.getElem?_toArray, List.getElem?_cons_succ, List.getElem?_cons_zero]; rfl) (by rfl) ?_
                       apply Exists.intro
                       refine ⟨fun wz hw _ => ?_, ?_⟩
                       · have hcz := hw.cells.1
                         go_simp
                         (with_reducible exact Rg.up_value)
                       simp only [Act.put, List.setIfInBounds_toArray, List.set_cons_zero, List.set_cons_succ])
                      (refine Rr.wr_y (by simp only [List.getElem?_toArray, List.getElem?_cons_succ, List.getElem?_cons_zero]; rfl) (by rfl) ?_
                       apply Exists.intro
                       refine ⟨fun wz hw _ => ?_, ?_⟩
                       · have hcz := hw.cells.1
                         go_simp
                         (with_reducible exact Rg.up_value)
                       simp only [Act.put, List.setIfInBounds_toArray, List.set_cons_zero, List.set_cons_succ])
                      (refine Rr.wr_y (by simp only [List.getElem?_toArray, List.getElem?_cons_succ, List.getElem?_cons_zero]; rfl) (by rfl) ?_
                       apply Exists.intro
                       refine ⟨fun wz hw _ => ?_, ?_⟩
                       · have hcz := hw.cells.1
                         go_simp
                         (with_reducible exact Rg.up_value)
                       simp only [Act.put, List.setIfInBounds_toArray, List.set_cons_zero, List.set_cons_succ])
                      (refine Rr.wr_y (by simp only [List.getElem?_toArray, List.getElem?_cons_succ, List.getElem?_cons_zero]; rfl) (by rfl) ?_
                       apply Exists.intro
                       refine ⟨fun wz hw _ => ?_, ?_⟩
                       · have hcz := hw.cells.1
                         go_simp
                         (with_reducible exact Rg.up_value)
                       simp only [Act.put, List.setIfInBounds_toArray, List.set_cons_zero, List.set_cons_succ])
                      (refine Rr.wr_y (by simp only [List.getElem?_toArray, List.getElem?_cons_succ, List.getElem?_cons_zero]; rfl) (by rfl) ?_
                       apply Exists.intro
                       refine ⟨fun wz hw _ => ?_, ?_⟩
                       · have hcz := hw.cells.1
                         go_simp
                         (with_reducible exact Rg.up_value)
                       simp only [Act.put, List.setIfInBounds_toArray, List.set_cons_zero, List.set_cons_succ])
                      (refine Rr.wr_y (by simp only [List.getElem?_toArray, List.getElem?_cons_succ, List.getElem?_cons_zero]; rfl) (by rfl) ?_
                       apply Exists.intro
                       refine ⟨fun wz hw _ => ?_, ?_⟩
                       · have hcz := hw.cells.1
                         go_simp
                         (with_reducible exact Rg.up_value)
                       simp only [Act.put, List.setIfInBounds_toArray, List.set_cons_zero, List.set_cons_succ])
                      (refine Rr.wr_y (by simp only [List.getElem?_toArray, List.getElem?_cons_succ, List.getElem?_cons_zero]; rfl) (by rfl) ?_
                       apply Exists.intro
                       refine ⟨fun wz hw _ => ?_, ?_⟩
                       · have hcz := hw.cells.1
                         go_simp
                         (with_reducible exact Rg.up_value)
                       simp only [Act.put, List.setIfInBounds_toArray, List.set_cons_zero, List.set_cons_succ])
                      (refine Rr.wr_y (by simp only [List.getElem?_toArray, List.getElem?_cons_succ, List.getElem?_cons_zero]; rfl) (by rfl) ?_
                       apply Exists.intro
                       refine ⟨fun wz hw _ => ?_, ?_⟩
                       · have hcz := hw.cells.1
                         go_simp
                         (with_reducible exact Rg.up_value)
                       simp only [Act.put, List.setIfInBounds_toArray, List.set_cons_zero, List.set_cons_succ])
                      (refine Rr.wr_y (by simp only [List.getElem?_toArray, List.getElem?_cons_succ, List.getElem?_cons_zero]; rfl) (by rfl) ?_
                       apply Exists.intro
                       refine ⟨fun wz hw _ => ?_, ?_⟩
                       · have hcz := hw.cells.1
                         go_simp
                         (with_reducible exact Rg.up_value)
                       simp only [Act.put, List.setIfInBounds_toArray, List.set_cons_zero, List.set_cons_succ])
                      (refine Rr.wr_y (by simp only [List.getElem?_toArray, List.getElem?_cons_succ, List.getElem?_cons_zero]; rfl) (by rfl) ?_
                       apply Exists.intro
                       refine ⟨fun wz hw _ => ?_, ?_⟩
                       · have hcz := hw.cells.1
                         go_simp
                         (with_reducible exact Rg.up_value)
                       simp only [Act.put, List.setIfInBounds_toArray, List.set_cons_zero, List.set_cons_succ])
                      (refine Rr.wr_y (by simp only [List.getElem?_toArray, List.getElem?_cons_succ, List.getElem?_cons_zero]; rfl) (by rfl) ?_
                       apply Exists.intro
                       refine ⟨fun wz hw _ => ?_, ?_⟩
                       · have hcz := hw.cells.1
                         go_simp
                         (with_reducible exact Rg.up_value)
                       simp only [Act.put, List.setIfInBounds_toArray, List.set_cons_zero, List.set_cons_succ])
                      (refine Rr.wr_y (by simp only [List.getElem?_toArray, List.getElem?_cons_succ, List.getElem?_cons_zero]; rfl) (by rfl) ?_
                       apply Exists.intro
                       refine ⟨fun wz hw _ => ?_, ?_⟩
                       · have hcz := hw.cells.1
                         go_simp
                         (with_reducible exact Rg.up_value)
                       simp only [Act.put, List.setIfInBounds_toArray, List.set_cons_zero, List.set_cons_succ])
                      refine Rr.wr_m (by simp only [List.getElem?_toArray, List.getElem?_cons_succ, List.getElem?_cons_zero]; rfl) (by rfl) (fun wz => by go_simp) (fun pn hpn => ?_)
                      simp only [Act.put, List.setIfInBounds_toArray, List.set_cons_zero, List.set_cons_succ]
                      refine Rr.wr_nil ?_
                      intro wy6 hy6 hh6
                      obtain ⟨-, hb2⟩ := hh6 _ List.mem_cons_self
                      simp only [List.length_cons, List.length_nil, List.drop_succ_cons, List.drop_zero, Nat.reduceAdd]
                      have HP := Lib.hid hb2; have HY := Lib.hid hy6
                      clear hh6 hb2 hy6
                      refine append_g (cs := Gd.cs) (z := .agg #[.int .i64 0, .int .i64 0, .int .i64 0, .string ⟨#[]⟩, .int .i64 0, .int .i64 0]) 32 23 56 Tryz.underlying32 (by kernel_rfl) (by rfl) (by decide) (by decide) rfl (.tmp 98) (.tmp 121) rfl w.heap.size (.slice rb gu.length rc) gu (by rfl) (row_ext HROW5.out HY.out) pn ⟨da, db', lo, cn, N, gu.length⟩ ⟨rfl, by simp [Gd.cs, Value.oneCell']⟩ (by rfl) HP.out (by omega) (by have := HY.out.size; have := HSZ.out; omega) ?_
                      intro g cap w7 hr7 hg7 hat7
                      have HR7 := Lib.hid hr7
                      have HX7 : Hid (Ext w w7) := Lib.hid (Below.trans (HX5.out.trans HY.out) ⟨hg7.os, hg7.tape, hg7.output, hg7.size, fun k hk => hg7.block k (by have := (HX5.out.trans HY.out).size; omega) (fun e => by have := ((row_ext HROW5.out HY.out).lt k e.symm).1; omega)⟩)
                      clear hr7 hg7 hat7 q0 ql c0 c1 c2 hp d0 l0 hbd hbl
                      go_wp2_with (fail)
                      refine ⟨⟨m + 1, gu ++ [⟨da, db', lo, cn, N, gu.length⟩], by simp, by omega, by simpa using HR7.out, Lib.hid ?_, by simp; omega, HX7.out⟩, by simp [iof]; omega⟩
                      rw [HCS.out]
                      have hh := HM.out.snoc (g := ⟨da, db', lo, cn, N, gu.length⟩) ⟨⟨HOD.out.1, HOD.out.2, HLI.out, HCO2.out.1, HNN.out.1, okI_small (z := (gu.length : Int)) (by omega)⟩, _, HMEM.out, rfl, HNN.out.2⟩
                      simp only [List.append_assoc] at hh ⊢
                      exact hh
                    · have kw : IntKind.i64.wrap (chi - clo) = chi - clo - 18446744073709551616 := by rw [IntKind.wrap_i64]; omega
                      go_upto_region 15 with (fail)
                      clear kw
                      obtain ⟨N, hN⟩ : ∃ N, N = clo := ⟨_, rfl⟩
                      have HNN : Hid (OkI N ∧ (N = clo ∨ (clo ≤ N ∧ N ≤ chi))) := Lib.hid ⟨by rw [hN]; exact ⟨hlo1, hlo2⟩, .inl hN⟩
                      rw [← hN]
                      obtain ⟨w5, hw5⟩ : ∃ w5, w5 = w4 := ⟨_, rfl⟩
                      have HQ5 := HQ4; have HX5 := HX4; have HROW5 := HROW4
                      rw [← hw5] at HQ5 HX5 HROW5 ⊢
                      clear hw5 hN q2 q3 ql
                      have q0 := cell_of_row w5 qv 0 _ _ _ HQ5.out
                      have ql := Rg.lt_of_heap HQ5.out
                      obtain ⟨c0, c1, c2, hp⟩ := HE.out w5 HX5.out
                      have d0 := (HX5.out.cells.1 _ _ (World.block_lt_of_cell? w _ HD3.out)).trans HD3.out
                      have l0 := (HX5.out.cells.1 _ _ (World.block_lt_of_cell? w _ HLC.out)).trans HLC.out
                      have hbd := World.block_lt_of_cell? w5 _ d0
                      have hbl := World.block_lt_of_cell? w5 _ l0
                      have hsz5 := HX5.out.size
                      have HSZ := Lib.hid hsz5
                      clear hsz5
                      refine Rr.wp_region [(0, .y), (1, .y), (2, .y), (3, .y), (4, .y), (5, .y), (6, .y), (7, .y), (8, .y), (9, .y), (10, .y), (11, .y), (12, .y), (13, .y), (14, .y), (15, .y), (16, .y), (17, .y), (18, .y), (19, .y), (20, .y), (21, .y), (22, .y), (23, .m)] (fun _ => (.cells #[.int .i64 da, .int .i64 db', .int .i64 lo, .string cn, .int .i64 N, .int .i64 gu.length] 23, fun p => .slice (some ⟨p, 0, none⟩) 1 1)) (by kernel_rfl) (by kernel_rfl) ?_
                      (refine Rr.wr_y (by simp only [List.getElem?_toArray, List.getElem?_cons_succ, List.getElem?_cons_zero]; rfl) (by rfl) ?_
                       apply Exists.intro
                       refine ⟨fun wz hw _ => ?_, ?_⟩
                       · have hcz := hw.cells.1
                         go_simp
                         (with_reducible exact Rg.up_value)
                       simp only [Act.put, List.setIfInBounds_toArray, List.set_cons_zero, List.set_cons_succ])
                      (refine Rr.wr_y (by simp only [List.getElem?_toArray, List.getElem?_cons_succ, List.getElem?_cons_zero]; rfl) (by rfl) ?_
                       apply Exists.intro
                       refine ⟨fun wz hw _ => ?_, ?_⟩
                       · have hcz := hw.cells.1
                         go_simp
                         (with_reducible exact Rg.up_value)
                       simp only [Act.put, List.setIfInBounds_toArray, List.set_cons_zero, List.set_cons_succ])
                      (refine Rr.wr_y (by simp only [List.getElem?_toArray, List.getElem?_cons_succ, List.getElem?_cons_zero]; rfl) (by rfl) ?_
                       apply Exists.intro
                       refine ⟨fun wz hw _ => ?_, ?_⟩
                       · have hcz := hw.cells.1
                         go_simp
                         (with_reducible exact Rg.up_value)
                       simp only [Act.put, List.setIfInBounds_toArray, List.set_cons_zero, List.set_cons_succ])
                      (refine Rr.wr_y (by simp only [List.getElem?_toArray, List.getElem?_cons_succ, List.getElem?_cons_zero]; rfl) (by rfl) ?_
                       apply Exists.intro
                       refine ⟨fun wz hw _ => ?_, ?_⟩
                       · have hcz := hw.cells.1
                         go_simp
                         (with_reducible exact Rg.up_value)
                       simp only [Act.put, List.setIfInBounds_toArray, List.set_cons_zero, List.set_cons_succ])
                      (refine Rr.wr_y (by simp only [List.getElem?_toArray, List.getElem?_cons_succ, List.getElem?_cons_zero]; rfl) (by rfl) ?_
                       apply Exists.intro
                       refine ⟨fun wz hw _ => ?_, ?_⟩
                       · have hcz := hw.cells.1
                         go_simp
                         (with_reducible exact Rg.up_value)
                       simp only [Act.put, List.setIfInBounds_toArray, List.set_cons_zero, List.set_cons_succ])
                      (refine Rr.wr_y (by simp only [List.getElem?_toArray, List.getElem?_cons_succ, List.getElem?_cons_zero]; rfl) (by rfl) ?_
                       apply Exists.intro
                       refine ⟨fun wz hw _ => ?_, ?_⟩
                       · have hcz := hw.cells.1
                         go_simp
                         (with_reducible exact Rg.up_value)
                       simp only [Act.put, List.setIfInBounds_toArray, List.set_cons_zero, List.set_cons_succ])
                      (refine Rr.wr_y (by simp only [List.getElem?_toArray, List.getElem?_cons_succ, List.getElem?_cons_zero]; rfl) (by rfl) ?_
                       apply Exists.intro
                       refine ⟨fun wz hw _ => ?_, ?_⟩
                       · have hcz := hw.cells.1
                         go_simp
                         (with_reducible exact Rg.up_value)
                       simp only [Act.put, List.setIfInBounds_toArray, List.set_cons_zero, List.set_cons_succ])
                      (refine Rr.wr_y (by simp only [List.getElem?_toArray, List.getElem?_cons_succ, List.getElem?_cons_zero]; rfl) (by rfl) ?_
                       apply Exists.intro
                       refine ⟨fun wz hw _ => ?_, ?_⟩
                       · have hcz := hw.cells.1
                         go_simp
                         (with_reducible exact Rg.up_value)
                       simp only [Act.put, List.setIfInBounds_toArray, List.set_cons_zero, List.set_cons_succ])
                      (refine Rr.wr_y (by simp only [List.getElem?_toArray, List.getElem?_cons_succ, List.getElem?_cons_zero]; rfl) (by rfl) ?_
                       apply Exists.intro
                       refine ⟨fun wz hw _ => ?_, ?_⟩
                       · have hcz := hw.cells.1
                         go_simp
                         (with_reducible exact Rg.up_value)
                       simp only [Act.put, List.setIfInBounds_toArray, List.set_cons_zero, List.set_cons_succ])
                      (refine Rr.wr_y (by simp only [List.getElem?_toArray, List.getElem?_cons_succ, List.getElem?_cons_zero]; rfl) (by rfl) ?_
                       apply Exists.intro
                       refine ⟨fun wz hw _ => ?_, ?_⟩
                       · have hcz := hw.cells.1
                         go_simp
                         (with_reducible exact Rg.up_value)
                       simp only [Act.put, List.setIfInBounds_toArray, List.set_cons_zero, List.set_cons_succ])
                      (refine Rr.wr_y (by simp only [List.getElem?_toArray, List.getElem?_cons_succ, List.getElem?_cons_zero]; rfl) (by rfl) ?_
                       apply Exists.intro
                       refine ⟨fun wz hw _ => ?_, ?_⟩
                       · have hcz := hw.cells.1
                         go_simp
                         (with_reducible exact Rg.up_value)
                       simp only [Act.put, List.setIfInBounds_toArray, List.set_cons_zero, List.set_cons_succ])
                      (refine Rr.wr_y (by simp only [List.getElem?_toArray, List.getElem?_cons_succ, List.getElem?_cons_zero]; rfl) (by rfl) ?_
                       apply Exists.intro
                       refine ⟨fun wz hw _ => ?_, ?_⟩
                       · have hcz := hw.cells.1
                         go_simp
                         (with_reducible exact Rg.up_value)
                       simp only [Act.put, List.setIfInBounds_toArray, List.set_cons_zero, List.set_cons_succ])
                      (refine Rr.wr_y (by simp only [List.getElem?_toArray, List.getElem?_cons_succ, List.getElem?_cons_zero]; rfl) (by rfl) ?_
                       apply Exists.intro
                       refine ⟨fun wz hw _ => ?_, ?_⟩
                       · have hcz := hw.cells.1
                         go_simp
                         (with_reducible exact Rg.up_value)
                       simp only [Act.put, List.setIfInBounds_toArray, List.set_cons_zero, List.set_cons_succ])
                      (refine Rr.wr_y (by simp only [List.getElem?_toArray, List.getElem?_cons_succ, List.getElem?_cons_zero]; rfl) (by rfl) ?_
                       apply Exists.intro
                       refine ⟨fun wz hw _ => ?_, ?_⟩
                       · have hcz := hw.cells.1
                         go_simp
                         (with_reducible exact Rg.up_value)
                       simp only [Act.put, List.setIfInBounds_toArray, List.set_cons_zero, List.set_cons_succ])
                      (refine Rr.wr_y (by simp only [List.getElem?_toArray, List.getElem?_cons_succ, List.getElem?_cons_zero]; rfl) (by rfl) ?_
                       apply Exists.intro
                       refine ⟨fun wz hw _ => ?_, ?_⟩
                       · have hcz := hw.cells.1
                         go_simp
                         (with_reducible exact Rg.up_value)
                       simp only [Act.put, List.setIfInBounds_toArray, List.set_cons_zero, List.set_cons_succ])
                      (refine Rr.wr_y (by simp only [List.getElem?_toArray, List.getElem?_cons_succ, List.getElem?_cons_zero]; rfl) (by rfl) ?_
                       apply Exists.intro
                       refine ⟨fun wz hw _ => ?_, ?_⟩
                       · have hcz := hw.cells.1
                         go_simp
                         (with_reducible exact Rg.up_value)
                       simp only [Act.put, List.setIfInBounds_toArray, List.set_cons_zero, List.set_cons_succ])
                      (refine Rr.wr_y (by simp only [List.getElem?_toArray, List.getElem?_cons_succ, List.getElem?_cons_zero]; rfl) (by rfl) ?_
                       apply Exists.intro
                       refine ⟨fun wz hw _ => ?_, ?_⟩
                       · have hcz := hw.cells.1
                         go_simp
                         (with_reducible exact Rg.up_value)
                       simp only [Act.put, List.setIfInBounds_toArray, List.set_cons_zero, List.set_cons_succ])
                      (refine Rr.wr_y (by simp only [List.getElem?_toArray, List.getElem?_cons_succ, List.getElem?_cons_zero]; rfl) (by rfl) ?_
                       apply Exists.intro
                       refine ⟨fun wz hw _ => ?_, ?_⟩
                       · have hcz := hw.cells.1
                         go_simp
                         (with_reducible exact Rg.up_value)
                       simp only [Act.put, List.setIfInBounds_toArray, List.set_cons_zero, List.set_cons_succ])
                      (refine Rr.wr_y (by simp only [List.getElem?_toArray, List.getElem?_cons_succ, List.getElem?_cons_zero]; rfl) (by rfl) ?_
                       apply Exists.intro
                       refine ⟨fun wz hw _ => ?_, ?_⟩
                       · have hcz := hw.cells.1
                         go_simp
                         (with_reducible exact Rg.up_value)
                       simp only [Act.put, List.setIfInBounds_toArray, List.set_cons_zero, List.set_cons_succ])
                      (refine Rr.wr_y (by simp only [List.getElem?_toArray, List.getElem?_cons_succ, List.getElem?_cons_zero]; rfl) (by rfl) ?_
                       apply Exists.intro
                       refine ⟨fun wz hw _ => ?_, ?_⟩
                       · have hcz := hw.cells.1
                         go_simp
                         (with_reducible exact Rg.up_value)
                       simp only [Act.put, List.setIfInBounds_toArray, List.set_cons_zero, List.set_cons_succ])
                      (refine Rr.wr_y (by simp only [List.getElem?_toArray, List.getElem?_cons_succ, List.getElem?_cons_zero]; rfl) (by rfl) ?_
                       apply Exists.intro
                       refine ⟨fun wz hw _ => ?_, ?_⟩
                       · have hcz := hw.cells.1
                         go_simp
                         (with_reducible exact Rg.up_value)
                       simp only [Act.put, List.setIfInBounds_toArray, List.set_cons_zero, List.set_cons_succ])
                      (refine Rr.wr_y (by simp only [List.getElem?_toArray, List.getElem?_cons_succ, List.getElem?_cons_zero]; rfl) (by rfl) ?_
                       apply Exists.intro
                       refine ⟨fun wz hw _ => ?_, ?_⟩
                       · have hcz := hw.cells.1
                         go_simp
                         (with_reducible exact Rg.up_value)
                       simp only [Act.put, List.setIfInBounds_toArray, List.set_cons_zero, List.set_cons_succ])
                      (refine Rr.wr_y (by simp only [List.getElem?_toArray, List.getElem?_cons_succ, List.getElem?_cons_zero]; rfl) (by rfl) ?_
                       apply Exists.intro
                       refine ⟨fun wz hw _ => ?_, ?_⟩
                       · have hcz := hw.cells.1
                         go_simp
                         (with_reducible exact Rg.up_value)
                       simp only [Act.put, List.setIfInBounds_toArray, List.set_cons_zero, List.set_cons_succ])
                      refine Rr.wr_m (by simp only [List.getElem?_toArray, List.getElem?_cons_succ, List.getElem?_cons_zero]; rfl) (by rfl) (fun wz => by go_simp) (fun pn hpn => ?_)
                      simp only [Act.put, List.setIfInBounds_toArray, List.set_cons_zero, List.set_cons_succ]
                      refine Rr.wr_nil ?_
                      intro wy6 hy6 hh6
                      obtain ⟨-, hb2⟩ := hh6 _ List.mem_cons_self
                      simp only [List.length_cons, List.length_nil, List.drop_succ_cons, List.drop_zero, Nat.reduceAdd]
                      have HP := Lib.hid hb2; have HY := Lib.hid hy6
                      clear hh6 hb2 hy6
                      refine append_g (cs := Gd.cs) (z := .agg #[.int .i64 0, .int .i64 0, .int .i64 0, .string ⟨#[]⟩, .int .i64 0, .int .i64 0]) 32 23 56 Tryz.underlying32 (by kernel_rfl) (by rfl) (by decide) (by decide) rfl (.tmp 98) (.tmp 121) rfl w.heap.size (.slice rb gu.length rc) gu (by rfl) (row_ext HROW5.out HY.out) pn ⟨da, db', lo, cn, N, gu.length⟩ ⟨rfl, by simp [Gd.cs, Value.oneCell']⟩ (by rfl) HP.out (by omega) (by have := HY.out.size; have := HSZ.out; omega) ?_
                      intro g cap w7 hr7 hg7 hat7
                      have HR7 := Lib.hid hr7
                      have HX7 : Hid (Ext w w7) := Lib.hid (Below.trans (HX5.out.trans HY.out) ⟨hg7.os, hg7.tape, hg7.output, hg7.size, fun k hk => hg7.block k (by have := (HX5.out.trans HY.out).size; omega) (fun e => by have := ((row_ext HROW5.out HY.out).lt k e.symm).1; omega)⟩)
                      clear hr7 hg7 hat7 q0 ql c0 c1 c2 hp d0 l0 hbd hbl
                      go_wp2_with (fail)
                      refine ⟨⟨m + 1, gu ++ [⟨da, db', lo, cn, N, gu.length⟩], by simp, by omega, by simpa using HR7.out, Lib.hid ?_, by simp; omega, HX7.out⟩, by simp [iof]; omega⟩
                      rw [HCS.out]
                      have hh := HM.out.snoc (g := ⟨da, db', lo, cn, N, gu.length⟩) ⟨⟨HOD.out.1, HOD.out.2, HLI.out, HCO2.out.1, HNN.out.1, okI_small (z := (gu.length : Int)) (by omega)⟩, _, HMEM.out, rfl, HNN.out.2⟩
                      simp only [List.append_assoc] at hh ⊢
                      exact hh
                  · go_upto_region 15 with (fail)
                    obtain ⟨N, hN⟩ : ∃ N, N = clo := ⟨_, rfl⟩
                    have HNN : Hid (OkI N ∧ (N = clo ∨ (clo ≤ N ∧ N ≤ chi))) := Lib.hid ⟨by rw [hN]; exact ⟨hlo1, hlo2⟩, .inl hN⟩
                    rw [← hN]
                    obtain ⟨w5, hw5⟩ : ∃ w5, w5 = w4 := ⟨_, rfl⟩
                    have HQ5 := HQ4; have HX5 := HX4; have HROW5 := HROW4
                    rw [← hw5] at HQ5 HX5 HROW5 ⊢
                    clear hw5 hN q2 q3 ql
                    have q0 := cell_of_row w5 qv 0 _ _ _ HQ5.out
                    have ql := Rg.lt_of_heap HQ5.out
                    obtain ⟨c0, c1, c2, hp⟩ := HE.out w5 HX5.out
                    have d0 := (HX5.out.cells.1 _ _ (World.block_lt_of_cell? w _ HD3.out)).trans HD3.out
                    have l0 := (HX5.out.cells.1 _ _ (World.block_lt_of_cell? w _ HLC.out)).trans HLC.out
                    have hbd := World.block_lt_of_cell? w5 _ d0
                    have hbl := World.block_lt_of_cell? w5 _ l0
                    have hsz5 := HX5.out.size
                    have HSZ := Lib.hid hsz5
                    clear hsz5
                    refine Rr.wp_region [(0, .y), (1, .y), (2, .y), (3, .y), (4, .y), (5, .y), (6, .y), (7, .y), (8, .y), (9, .y), (10, .y), (11, .y), (12, .y), (13, .y), (14, .y), (15, .y), (16, .y), (17, .y), (18, .y), (19, .y), (20, .y), (21, .y), (22, .y), (23, .m)] (fun _ => (.cells #[.int .i64 da, .int .i64 db', .int .i64 lo, .string cn, .int .i64 N, .int .i64 gu.length] 23, fun p => .slice (some ⟨p, 0, none⟩) 1 1)) (by kernel_rfl) (by kernel_rfl) ?_
                    (refine Rr.wr_y (by simp only [List.getElem?_toArray, List.getElem?_cons_succ, List.getElem?_cons_zero]; rfl) (by rfl) ?_
                     apply Exists.intro
                     refine ⟨fun wz hw _ => ?_, ?_⟩
                     · have hcz := hw.cells.1
                       go_simp
                       (with_reducible exact Rg.up_value)
                     simp only [Act.put, List.setIfInBounds_toArray, List.set_cons_zero, List.set_cons_succ])
                    (refine Rr.wr_y (by simp only [List.getElem?_toArray, List.getElem?_cons_succ, List.getElem?_cons_zero]; rfl) (by rfl) ?_
                     apply Exists.intro
                     refine ⟨fun wz hw _ => ?_, ?_⟩
                     · have hcz := hw.cells.1
                       go_simp
                       (with_reducible exact Rg.up_value)
                     simp only [Act.put, List.setIfInBounds_toArray, List.set_cons_zero, List.set_cons_succ])
                    (refine Rr.wr_y (by simp only [List.getElem?_toArray, List.getElem?_cons_succ, List.getElem?_cons_zero]; rfl) (by rfl) ?_
                     apply Exists.intro
                     refine ⟨fun wz hw _ => ?_, ?_⟩
                     · have hcz := hw.cells.1
                       go_simp
                       (with_reducible exact Rg.up_value)
                     simp only [Act.put, List.setIfInBounds_toArray, List.set_cons_zero, List.set_cons_succ])
                    (refine Rr.wr_y (by simp only [List.getElem?_toArray, List.getElem?_cons_succ, List.getElem?_cons_zero]; rfl) (by rfl) ?_
                     apply Exists.intro
                     refine ⟨fun wz hw _ => ?_, ?_⟩
                     · have hcz := hw.cells.1
                       go_simp
                       (with_reducible exact Rg.up_value)
                     simp only [Act.put, List.setIfInBounds_toArray, List.set_cons_zero, List.set_cons_succ])
                    (refine Rr.wr_y (by simp only [List.getElem?_toArray, List.getElem?_cons_succ, List.getElem?_cons_zero]; rfl) (by rfl) ?_
                     apply Exists.intro
                     refine ⟨fun wz hw _ => ?_, ?_⟩
                     · have hcz := hw.cells.1
                       go_simp
                       (with_reducible exact Rg.up_value)
                     simp only [Act.put, List.setIfInBounds_toArray, List.set_cons_zero, List.set_cons_succ])
                    (refine Rr.wr_y (by simp only [List.getElem?_toArray, List.getElem?_cons_succ, List.getElem?_cons_zero]; rfl) (by rfl) ?_
                     apply Exists.intro
                     refine ⟨fun wz hw _ => ?_, ?_⟩
                     · have hcz := hw.cells.1
                       go_simp
                       (with_reducible exact Rg.up_value)
                     simp only [Act.put, List.setIfInBounds_toArray, List.set_cons_zero, List.set_cons_succ])
                    (refine Rr.wr_y (by simp only [List.getElem?_toArray, List.getElem?_cons_succ, List.getElem?_cons_zero]; rfl) (by rfl) ?_
                     apply Exists.intro
                     refine ⟨fun wz hw _ => ?_, ?_⟩
                     · have hcz := hw.cells.1
                       go_simp
                       (with_reducible exact Rg.up_value)
                     simp only [Act.put, List.setIfInBounds_toArray, List.set_cons_zero, List.set_cons_succ])
                    (refine Rr.wr_y (by simp only [List.getElem?_toArray, List.getElem?_cons_succ, List.getElem?_cons_zero]; rfl) (by rfl) ?_
                     apply Exists.intro
                     refine ⟨fun wz hw _ => ?_, ?_⟩
                     · have hcz := hw.cells.1
                       go_simp
                       (with_reducible exact Rg.up_value)
                     simp only [Act.put, List.setIfInBounds_toArray, List.set_cons_zero, List.set_cons_succ])
                    (refine Rr.wr_y (by simp only [List.getElem?_toArray, List.getElem?_cons_succ, List.getElem?_cons_zero]; rfl) (by rfl) ?_
                     apply Exists.intro
                     refine ⟨fun wz hw _ => ?_, ?_⟩
                     · have hcz := hw.cells.1
                       go_simp
                       (with_reducible exact Rg.up_value)
                     simp only [Act.put, List.setIfInBounds_toArray, List.set_cons_zero, List.set_cons_succ])
                    (refine Rr.wr_y (by simp only [List.getElem?_toArray, List.getElem?_cons_succ, List.getElem?_cons_zero]; rfl) (by rfl) ?_
                     apply Exists.intro
                     refine ⟨fun wz hw _ => ?_, ?_⟩
                     · have hcz := hw.cells.1
                       go_simp
                       (with_reducible exact Rg.up_value)
                     simp only [Act.put, List.setIfInBounds_toArray, List.set_cons_zero, List.set_cons_succ])
                    (refine Rr.wr_y (by simp only [List.getElem?_toArray, List.getElem?_cons_succ, List.getElem?_cons_zero]; rfl) (by rfl) ?_
                     apply Exists.intro
                     refine ⟨fun wz hw _ => ?_, ?_⟩
                     · have hcz := hw.cells.1
                       go_simp
                       (with_reducible exact Rg.up_value)
                     simp only [Act.put, List.setIfInBounds_toArray, List.set_cons_zero, List.set_cons_succ])
                    (refine Rr.wr_y (by simp only [List.getElem?_toArray, List.getElem?_cons_succ, List.getElem?_cons_zero]; rfl) (by rfl) ?_
                     apply Exists.intro
                     refine ⟨fun wz hw _ => ?_, ?_⟩
                     · have hcz := hw.cells.1
                       go_simp
                       (with_reducible exact Rg.up_value)
                     simp only [Act.put, List.setIfInBounds_toArray, List.set_cons_zero, List.set_cons_succ])
                    (refine Rr.wr_y (by simp only [List.getElem?_toArray, List.getElem?_cons_succ, List.getElem?_cons_zero]; rfl) (by rfl) ?_
                     apply Exists.intro
                     refine ⟨fun wz hw _ => ?_, ?_⟩
                     · have hcz := hw.cells.1
                       go_simp
                       (with_reducible exact Rg.up_value)
                     simp only [Act.put, List.setIfInBounds_toArray, List.set_cons_zero, List.set_cons_succ])
                    (refine Rr.wr_y (by simp only [List.getElem?_toArray, List.getElem?_cons_succ, List.getElem?_cons_zero]; rfl) (by rfl) ?_
                     apply Exists.intro
                     refine ⟨fun wz hw _ => ?_, ?_⟩
                     · have hcz := hw.cells.1
                       go_simp
                       (with_reducible exact Rg.up_value)
                     simp only [Act.put, List.setIfInBounds_toArray, List.set_cons_zero, List.set_cons_succ])
                    (refine Rr.wr_y (by simp only [List.getElem?_toArray, List.getElem?_cons_succ, List.getElem?_cons_zero]; rfl) (by rfl) ?_
                     apply Exists.intro
                     refine ⟨fun wz hw _ => ?_, ?_⟩
                     · have hcz := hw.cells.1
                       go_simp
                       (with_reducible exact Rg.up_value)
                     simp only [Act.put, List.setIfInBounds_toArray, List.set_cons_zero, List.set_cons_succ])
                    (refine Rr.wr_y (by simp only [List.getElem?_toArray, List.getElem?_cons_succ, List.getElem?_cons_zero]; rfl) (by rfl) ?_
                     apply Exists.intro
                     refine ⟨fun wz hw _ => ?_, ?_⟩
                     · have hcz := hw.cells.1
                       go_simp
                       (with_reducible exact Rg.up_value)
                     simp only [Act.put, List.setIfInBounds_toArray, List.set_cons_zero, List.set_cons_succ])
                    (refine Rr.wr_y (by simp only [List.getElem?_toArray, List.getElem?_cons_succ, List.getElem?_cons_zero]; rfl) (by rfl) ?_
                     apply Exists.intro
                     refine ⟨fun wz hw _ => ?_, ?_⟩
                     · have hcz := hw.cells.1
                       go_simp
                       (with_reducible exact Rg.up_value)
                     simp only [Act.put, List.setIfInBounds_toArray, List.set_cons_zero, List.set_cons_succ])
                    (refine Rr.wr_y (by simp only [List.getElem?_toArray, List.getElem?_cons_succ, List.getElem?_cons_zero]; rfl) (by rfl) ?_
                     apply Exists.intro
                     refine ⟨fun wz hw _ => ?_, ?_⟩
                     · have hcz := hw.cells.1
                       go_simp
                       (with_reducible exact Rg.up_value)
                     simp only [Act.put, List.setIfInBounds_toArray, List.set_cons_zero, List.set_cons_succ])
                    (refine Rr.wr_y (by simp only [List.getElem?_toArray, List.getElem?_cons_succ, List.getElem?_cons_zero]; rfl) (by rfl) ?_
                     apply Exists.intro
                     refine ⟨fun wz hw _ => ?_, ?_⟩
                     · have hcz := hw.cells.1
                       go_simp
                       (with_reducible exact Rg.up_value)
                     simp only [Act.put, List.setIfInBounds_toArray, List.set_cons_zero, List.set_cons_succ])
                    (refine Rr.wr_y (by simp only [List.getElem?_toArray, List.getElem?_cons_succ, List.getElem?_cons_zero]; rfl) (by rfl) ?_
                     apply Exists.intro
                     refine ⟨fun wz hw _ => ?_, ?_⟩
                     · have hcz := hw.cells.1
                       go_simp
                       (with_reducible exact Rg.up_value)
                     simp only [Act.put, List.setIfInBounds_toArray, List.set_cons_zero, List.set_cons_succ])
                    (refine Rr.wr_y (by simp only [List.getElem?_toArray, List.getElem?_cons_succ, List.getElem?_cons_zero]; rfl) (by rfl) ?_
                     apply Exists.intro
                     refine ⟨fun wz hw _ => ?_, ?_⟩
                     · have hcz := hw.cells.1
                       go_simp
                       (with_reducible exact Rg.up_value)
                     simp only [Act.put, List.setIfInBounds_toArray, List.set_cons_zero, List.set_cons_succ])
                    (refine Rr.wr_y (by simp only [List.getElem?_toArray, List.getElem?_cons_succ, List.getElem?_cons_zero]; rfl) (by rfl) ?_
                     apply Exists.intro
                     refine ⟨fun wz hw _ => ?_, ?_⟩
                     · have hcz := hw.cells.1
                       go_simp
                       (with_reducible exact Rg.up_value)
                     simp only [Act.put, List.setIfInBounds_toArray, List.set_cons_zero, List.set_cons_succ])
                    (refine Rr.wr_y (by simp only [List.getElem?_toArray, List.getElem?_cons_succ, List.getElem?_cons_zero]; rfl) (by rfl) ?_
                     apply Exists.intro
                     refine ⟨fun wz hw _ => ?_, ?_⟩
                     · have hcz := hw.cells.1
                       go_simp
                       (with_reducible exact Rg.up_value)
                     simp only [Act.put, List.setIfInBounds_toArray, List.set_cons_zero, List.set_cons_succ])
                    refine Rr.wr_m (by simp only [List.getElem?_toArray, List.getElem?_cons_succ, List.getElem?_cons_zero]; rfl) (by rfl) (fun wz => by go_simp) (fun pn hpn => ?_)
                    simp only [Act.put, List.setIfInBounds_toArray, List.set_cons_zero, List.set_cons_succ]
                    refine Rr.wr_nil ?_
                    intro wy6 hy6 hh6
                    obtain ⟨-, hb2⟩ := hh6 _ List.mem_cons_self
                    simp only [List.length_cons, List.length_nil, List.drop_succ_cons, List.drop_zero, Nat.reduceAdd]
                    have HP := Lib.hid hb2; have HY := Lib.hid hy6
                    clear hh6 hb2 hy6
                    refine append_g (cs := Gd.cs) (z := .agg #[.int .i64 0, .int .i64 0, .int .i64 0, .string ⟨#[]⟩, .int .i64 0, .int .i64 0]) 32 23 56 Tryz.underlying32 (by kernel_rfl) (by rfl) (by decide) (by decide) rfl (.tmp 98) (.tmp 121) rfl w.heap.size (.slice rb gu.length rc) gu (by rfl) (row_ext HROW5.out HY.out) pn ⟨da, db', lo, cn, N, gu.length⟩ ⟨rfl, by simp [Gd.cs, Value.oneCell']⟩ (by rfl) HP.out (by omega) (by have := HY.out.size; have := HSZ.out; omega) ?_
                    intro g cap w7 hr7 hg7 hat7
                    have HR7 := Lib.hid hr7
                    have HX7 : Hid (Ext w w7) := Lib.hid (Below.trans (HX5.out.trans HY.out) ⟨hg7.os, hg7.tape, hg7.output, hg7.size, fun k hk => hg7.block k (by have := (HX5.out.trans HY.out).size; omega) (fun e => by have := ((row_ext HROW5.out HY.out).lt k e.symm).1; omega)⟩)
                    clear hr7 hg7 hat7 q0 ql c0 c1 c2 hp d0 l0 hbd hbl
                    go_wp2_with (fail)
                    refine ⟨⟨m + 1, gu ++ [⟨da, db', lo, cn, N, gu.length⟩], by simp, by omega, by simpa using HR7.out, Lib.hid ?_, by simp; omega, HX7.out⟩, by simp [iof]; omega⟩
                    rw [HCS.out]
                    have hh := HM.out.snoc (g := ⟨da, db', lo, cn, N, gu.length⟩) ⟨⟨HOD.out.1, HOD.out.2, HLI.out, HCO2.out.1, HNN.out.1, okI_small (z := (gu.length : Int)) (by omega)⟩, _, HMEM.out, rfl, HNN.out.2⟩
                    simp only [List.append_assoc] at hh ⊢
                    exact hh
              · obtain rfl : m = C.length := by omega
                rw [List.take_length] at HM
                go_wp2_with (fail)
                exact ⟨⟨j + 1, gu, by simp, by omega, hrow, Lib.hid (by rw [HLS.out]; exact HM.out), fun h => absurd rfl h, by omega, hx⟩, by simp [iof]; omega⟩
          · have hj0 := hbj hbb
            have HBB := Lib.hid hbb
            have HD2 : Hid (dutP bid L C ⟨da, db'⟩ = [] ∧ dutP bid (L.take j) C ⟨da, db'⟩ = []) := Lib.hid ⟨if_neg hbb, if_neg hbb⟩
            go_wp2_with (fail)
            exact ⟨⟨i + 1, gt, by simp, by omega, hrow, Lib.hid (by rw [HWS.out, HD2.out.1]; have := HJ.out; rw [HD2.out.2] at this; exact this), by omega, hx⟩, by simp [iof]; omega⟩
        · obtain rfl : j = L.length := by omega
          rw [List.take_length] at HJ
          go_wp2_with (fail)
          exact ⟨⟨i + 1, gt, by simp, by omega, hrow, Lib.hid (by rw [HWS.out]; exact HJ.out), by omega, hx⟩, by simp [iof]; omega⟩
    · obtain rfl : i = D.length := by omega
      rw [List.take_length] at HI
      go_wp2_with (fail)
      go_ret
      exact ⟨_, gs, rfl, hrow, HI.out, by omega, hx⟩
end Go.Proofs.YtnplnfkmcfalhaaGreatDoor
