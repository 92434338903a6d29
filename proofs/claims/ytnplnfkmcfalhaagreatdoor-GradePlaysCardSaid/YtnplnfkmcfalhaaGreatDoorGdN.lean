/-
  Case.Make: the tender and the duties that numbers determine. Conditions: the argument's slices read as rows of ints.
-/
import Derived.Test.YtnplnfkmcfalhaaGreatDoorGdM
import Derived.Test.YtnplnfkmcfalhaaGreatDoorGdI
import Derived.Deep.CutBlock
namespace Go.Proofs.YtnplnfkmcfalhaaGreatDoor
set_option linter.unusedVariables false
set_option linter.unusedSimpArgs false
open Go.RowKit

/-- A slice among the arguments reads as rows of n ints. -/
def RN (n : Nat) (w : World) (v : Value) (ls : List (List Int)) : Prop :=
  ∃ A cap, v = .slice A ls.length cap ∧ ls.length ≤ 9223372036854775807 ∧ (∀ z ∈ ls, z.length = n ∧ ∀ i ∈ z, OkI i) ∧
    (ls = [] ∨ ∃ b off, A = some ⟨b, off, none⟩ ∧ ∀ k (h : k < ls.length) j, j < n → w.cell? ⟨b, off + k * n + j, none⟩ = some (.int .i64 (ls[k].getD j 0)))
theorem RN.ext {n : Nat} {w w' : World} {v : Value} {ls : List (List Int)} (h : RN n w v ls) (e : Ext w w') : RN n w' v ls := by
  obtain ⟨A, cap, h1, h2, h3, h4⟩ := h
  exact ⟨A, cap, h1, h2, h3, h4.imp id fun ⟨b, off, ha, hc⟩ => ⟨b, off, ha, fun k hk j hj => (e.cells.1 _ _ (World.block_lt_of_cell? w _ (hc k hk j hj))).trans (hc k hk j hj)⟩⟩
theorem RN.form {n : Nat} {w : World} {v : Value} {ls : List (List Int)} (h : RN n w v ls) : ∃ A cap, v = .slice A ls.length cap ∧ ls.length ≤ 9223372036854775807 := by
  obtain ⟨A, cap, h1, h2, -⟩ := h
  exact ⟨A, cap, h1, h2⟩
theorem RN.at {n : Nat} {w : World} {A : Option Addr} {l c : Nat} {ls : List (List Int)} (h : RN n w (.slice A l c) ls) (k : Nat) (hk : k < ls.length) :
    ∃ b off, A = some ⟨b, off, none⟩ ∧ (∀ j, j < n → w.cell? ⟨b, off + k * n + j, none⟩ = some (.int .i64 (ls[k].getD j 0))) ∧ ∀ j, OkI (ls[k].getD j 0) := by
  obtain ⟨A', cap, h1, h2, h3, h4⟩ := h
  injection h1 with e1 e2 e3
  subst e1
  obtain ⟨b, off, ha, hc⟩ := h4.resolve_left (by intro e; rw [e] at hk; simp at hk)
  refine ⟨b, off, ha, hc k hk, fun j => ?_⟩
  rw [List.getD_eq_getElem?_getD]
  rcases Nat.lt_or_ge j ls[k].length with hj | hj
  · rw [List.getElem?_eq_getElem hj]
    exact (h3 _ (List.getElem_mem _)).2 _ (List.getElem_mem _)
  · rw [List.getElem?_eq_none hj]
    exact okI_small (by decide)
def caL1 (z : Int) : Lt := ⟨z, 10⟩
def caC1 (z : List Int) : Cr := ⟨nameB (modZ (z.getD 0 0) 4).toNat, z.getD 1 0, z.getD 2 0, z.getD 3 0, false⟩
def caD1 (z : List Int) : Dy := ⟨z.getD 0 0, z.getD 1 0⟩
theorem row_grown {B E sz n B' E' sz' n' : Nat} {w w' : World} {v v' : Value} {xs xs' : List Value} (hr : w.ownsRow B E sz v n xs) (hr' : w.ownsRow B' E' sz' v' n' xs') (hE : E ≠ E') (hg : w.grownBy w' v'.ownBlock) : w'.ownsRow B E sz v n xs :=
  row_of_block hr (fun k hk => hg.block k (hr.lt k hk).2 (fun e => (row_ne hr hr' hE).elim (fun h => by rw [h] at hk; cases hk) (fun h => h (hk.trans e))))
theorem row_set {B E sz n : Nat} {w : World} {v : Value} {xs : List Value} (hr : w.ownsRow B E sz v n xs) {t : Nat} (ht : t < B) (i : Nat) (u : Value) : (w.setCell ⟨t, i, none⟩ u).ownsRow B E sz v n xs :=
  row_of_block hr (fun k hk => heap_setCell_other w _ k _ (by have := (hr.lt k hk).1; show k ≠ t; omega))
theorem tcells {w : World} {p : Nat} {vl vc : Value} (h : w.heap[p]? = some (.cells (tenC vl vc) 55)) : w.cell? ⟨p, 1, none⟩ = some vl ∧ w.cell? ⟨p, 2, none⟩ = some vc ∧ p < w.heap.size ∧ ∀ i, w.frozen? ⟨p, i, none⟩ = false := by
  obtain ⟨hc, hf, hl⟩ := Rg.cells_of h
  exact ⟨hc 1, hc 2, hl, hf⟩
theorem results_row_tmp {P : Program} {fn : Func} {p q : Tmp} {ty : TypeId} (h : fn.results = #[.cell p ty, .tmp q]) (tmps : Array Value) (w : World) (g : Nat) (t : TypeId) (cs : Array Value) (fr : Nat × Nat) (d : TypeDesc)
    (hp : tmps.getD p undef = .pointer (some ⟨g, 0, none⟩)) (hg : w.heap[g]? = some (.cells cs t fr)) (v : Value) (hq : tmps.getD q undef = v)
    (hu : P.underlying ty = some d) (hd : (match d with | .struct _ | .array _ _ => true | _ => false) = true) (hi : (P.info? ty).map (·.size) = some cs.size) :
    (results fn tmps).run P w = .ok (.tuple #[.agg cs, v]) w := by
  have hp' : tmps[p]?.getD undef = .pointer (some ⟨g, 0, none⟩) := by simpa using hp
  have hq' : tmps[q]?.getD undef = v := by simpa using hq
  simp [results, h, hp', hq', asAddr, run_loadVar_row w g t ty cs fr d hg hu hd hi, Result.andThen]
theorem row_base {B B' E sz n : Nat} {w : World} {v : Value} {xs : List Value} (ho : w.ownsRow B E sz v n xs) (h : B' ≤ B) : w.ownsRow B' E sz v n xs := by
  refine ⟨ho.1, ?_⟩
  rcases ho.2 with hn | ⟨g, cap, cur, hv, hb, hg, rest⟩
  · exact .inl hn
  · exact .inr ⟨g, cap, cur, hv, Nat.le_trans h hb, hg, rest⟩
abbrev nilV : Value := .slice none 0 0
/-- The blocks of Make: the argument's, and the tender. -/
def MkS (pc t B : Nat) (w0 wr : World) (v0 v1 v2 vl vc : Value) : Prop :=
  wr.heap[pc]? = some (.cells #[v0, v1, v2] 64) ∧ wr.heap[t]? = some (.cells (tenC vl vc) 55) ∧ Ext w0 wr ∧ B ≤ wr.heap.size

set_option maxRecDepth 100000 in
set_option maxHeartbeats 4000000 in
theorem Make_any (ls : List Int) (cs ds : List (List Int)) (v0 v1 v2 : Value) (w : World) (h0 : IRd w v0 ls) (h1 : RN 4 w v1 cs) (h2 : RN 2 w v2 ds) :
    Calls Tryz.prog 16 #[.agg #[v0, v1, v2]] w fun e w' => ∃ vl vc vd, e = .returned (.tuple #[.agg (tenC vl vc), vd]) ∧ Ext w w' ∧
      w'.ownsRow w.heap.size 71 2 vl ((ls.take 3).map caL1).length (((ls.take 3).map caL1).flatMap Lt.cs) ∧ w'.ownsRow w.heap.size 73 5 vc ((cs.take 4).map caC1).length (((cs.take 4).map caC1).flatMap Cr.cs) ∧ w'.ownsRow w.heap.size 57 2 vd ((ds.take 9).map caD1).length (((ds.take 9).map caD1).flatMap Dy.cs) := by
  obtain ⟨a0, c0, rfl, hle0, hok0, hcell0⟩ := id h0
  obtain ⟨a1, c1, rfl, hle1⟩ := h1.form
  obtain ⟨a2, c2, rfl, hle2⟩ := h2.form
  have hl0 : (ls.length : Int) ≤ 9223372036854775807 := by omega
  have hl1 : (cs.length : Int) ≤ 9223372036854775807 := by omega
  have hl2 : (ds.length : Int) ≤ 9223372036854775807 := by omega
  have H0 := Lib.hid hcell0; have H1 := Lib.hid h1; have H2 := Lib.hid h2
  clear h0 h1 h2 hok0 hcell0 hle0 hle1 hle2
  go_enter Tryz.func16, Tryz.ntmps16
  go_upto_region 1 with (fail)
  obtain ⟨W1, hW1⟩ : ∃ W1, W1 = (w.alloc (.cells #[.slice a0 ls.length c0, .slice a1 cs.length c1, .slice a2 ds.length c2] 64)).alloc (.cells (tenC nilV nilV) 55) := ⟨_, rfl⟩
  have hx1 : Ext w W1 := by rw [hW1]; exact Ext.alloc (Ext.alloc (Ext.refl _) _) _
  have hC1 : W1.heap[w.heap.size]? = some (.cells #[.slice a0 ls.length c0, .slice a1 cs.length c1, .slice a2 ds.length c2] 64) := by
    rw [hW1, Below.heap_alloc _ _ _ (by simp)]; exact heap_alloc_new _ _
  have hR1 : W1.heap[w.heap.size + 1]? = some (.cells (tenC nilV nilV) 55) := by rw [hW1]; exact heap_at _ _ _ (by simp)
  have hs1 : W1.heap.size = w.heap.size + 2 := by rw [hW1]; simp
  unfold tenC at hW1
  rw [← hW1]
  have hT1 : (W1.alloc (.cells (tenC nilV nilV) 55)).heap[W1.heap.size]? = some (.cells (tenC nilV nilV) 55) := heap_alloc_new _ _
  obtain ⟨pc, hpc⟩ : ∃ pc, pc = w.heap.size := ⟨_, rfl⟩
  obtain ⟨pr, hpr⟩ : ∃ pr, pr = w.heap.size + 1 := ⟨_, rfl⟩
  rw [← hpr] at hR1 ⊢
  rw [← hpc] at hC1 ⊢
  have HPC := Lib.hid hpc; have HPR := Lib.hid hpr; have HS1 := Lib.hid hs1; have HX1 := Lib.hid hx1; have HC1 := Lib.hid hC1; have HR1 := Lib.hid hR1; have HT1 := Lib.hid hT1
  clear hW1 hpc hpr hs1 hx1 hC1 hR1 hT1
  go_upto_region 2 with (refine wpList_store_row (hgd := rfl) 55 (.tmp 4) (.tmp 10) rfl W1.heap.size (by rfl) (tenC nilV nilV) (by rfl) (tenC nilV nilV) 55 HT1.out (by rfl) (by kernel_rfl) (ten_one _ _ (by rfl) (by rfl)) ?_)
  obtain ⟨W2, hW2⟩ : ∃ W2, W2 = (W1.alloc (.cells (tenC nilV nilV) 55)).setRow W1.heap.size (tenC nilV nilV) := ⟨_, rfl⟩
  have hT2 : W2.heap[W1.heap.size]? = some (.cells (tenC nilV nilV) 55) := by rw [hW2]; exact setRow_heap _ _ _ _ 55 _ HT1.out
  have hx2 : Ext W1 W2 := by rw [hW2]; exact below_setRow (Ext.alloc (Ext.refl _) _) (Nat.le_refl _) _
  have hs2 : W2.heap.size = W1.heap.size + 1 := by rw [hW2]; simp
  change Code.wp _ _ _ _ ((W1.alloc (.cells (tenC nilV nilV) 55)).setRow W1.heap.size (tenC nilV nilV))
  rw [← hW2]
  obtain ⟨t, ht⟩ : ∃ t, t = W1.heap.size := ⟨_, rfl⟩
  rw [← ht] at hT2 hs2 ⊢
  have HTN : Hid (pc < t ∧ pr < t ∧ pr ≠ pc ∧ w.heap.size ≤ pc ∧ pc < W1.heap.size) := Lib.hid (by have := HPC.out; have := HPR.out; have := HS1.out; omega)
  have HC2 : Hid (W2.heap[pc]? = _) := Lib.hid ((hx2.block _ HTN.out.2.2.2.2).trans HC1.out)
  have HR2 : Hid (W2.heap[pr]? = _) := Lib.hid ((hx2.block _ (Rg.lt_of_heap HR1.out)).trans HR1.out)
  have HX2 := Lib.hid (HX1.out.trans hx2)
  have HT2 := Lib.hid hT2
  have HB2 : Hid (∃ B, B = W2.heap.size ∧ t < B ∧ pc < B ∧ pr < B) := Lib.hid ⟨_, rfl, by have := HTN.out; omega, by have := HTN.out; omega, by have := HTN.out; omega⟩
  obtain ⟨B, hB, htB, hpB, hrB⟩ := HB2.out
  have HB := Lib.hid (show B = W2.heap.size ∧ t < B ∧ pc < B ∧ pr < B ∧ w.heap.size ≤ t from ⟨hB, htB, hpB, hrB, by have := HTN.out; omega⟩)
  clear hW2 hT2 hx2 hs2 ht HC1 HR1 HT1 HX1 HS1 hB htB hpB hrB HB2
  go_upto_block 0 with (fail)
  go_cut [5] (fun s wx => ∃ vl, MkS pc t B w wx (.slice a0 ls.length c0) (.slice a1 cs.length c1) (.slice a2 ds.length c2) vl nilV ∧ wx.heap[pr]? = some (.cells (tenC nilV nilV) 55) ∧ wx.ownsRow B 71 2 vl ((ls.take 3).map caL1).length (((ls.take 3).map caL1).flatMap Lt.cs))
  case first =>
    go_wp2_with (fail)
    go_loopw [5] (fun k wr => ∃ (j : Nat) (vl : Value), k = .int .i64 j ∧ j ≤ ls.length ∧ j ≤ 3 ∧ MkS pc t B w wr (.slice a0 ls.length c0) (.slice a1 cs.length c1) (.slice a2 ds.length c2) vl nilV ∧ wr.heap[pr]? = some (.cells (tenC nilV nilV) 55) ∧ wr.ownsRow B 71 2 vl ((ls.take j).map caL1).length (((ls.take j).map caL1).flatMap Lt.cs)) (fun k _ => 3 - (iof k).toNat)
    case atStart => exact ⟨0, nilV, rfl, Nat.zero_le _, by omega, ⟨HC2.out, HT2.out, HX2.out, by rw [HB.out.1]; exact Nat.le_refl _⟩, HR2.out, World.ownsRow_nil _ _ _ _⟩
    case round =>
      obtain ⟨j, vl, rfl, hj, hj3, ⟨hC, hT, hx, hsz⟩, hR, hrow⟩ := hrel
      obtain ⟨xb, xc, rfl⟩ := (SR.of_row (cs := Lt.cs) (fun _ => rfl) hrow (by rw [List.length_map, List.length_take]; omega)).form
      have HC := Lib.hid hC; have HT := Lib.hid hT; have HX := Lib.hid hx; have HR := Lib.hid hR; have HROW := Lib.hid hrow
      have p0 := cell_of_row wr pc 0 _ _ _ hC
      have pl := Rg.lt_of_heap hC
      obtain ⟨u1, -, ul, -⟩ := tcells hT
      have hlen : ((ls.take j).map caL1).length = j := by rw [List.length_map, List.length_take]; omega
      clear hC hT hx hR hrow
      by_cases hgo : j < ls.length ∧ j < 3
      · obtain ⟨hlt, h3⟩ := hgo
        obtain ⟨b, off, rfl, hcc⟩ := H0.out.resolve_left (by intro e; rw [e] at hlt; simp at hlt)
        have hcj := (HX.out.cells.1 _ _ (World.block_lt_of_cell? w _ (hcc j hlt))).trans (hcc j hlt)
        have hbr := World.block_lt_of_cell? wr _ hcj
        have HS := Lib.hid (map_take_succ caL1 ls j hlt)
        have HL := Lib.hid hlen
        clear hcc hlen
        generalize (ls.take j).map caL1 = st at *
        generalize ls[j] = z at *
        have k6 : (j : Int) < 3 := by omega
        have k7 : (j : Int) < (ls.length : Int) := by omega
        go_wp2_with (fail)
        refine Rr.wp_region [(0, .y), (1, .y), (2, .y), (3, .y), (4, .y), (5, .y), (6, .y), (7, .y), (8, .m)] (fun _ => (.cells #[.int .i64 z, .int .i64 10] 71, fun p => .slice (some ⟨p, 0, none⟩) 1 1)) (by kernel_rfl) (by kernel_rfl) ?_
        (refine Rr.wr_y (by simp only [List.getElem?_toArray, List.getElem?_cons_succ, List.getElem?_cons_zero]; rfl) (by rfl) ?_
         apply Exists.intro
         refine ⟨fun wz hw _ => ?_, ?_⟩
         · have hcz := hw.cells.1
           go_simp
           (with_reducible exact Rg.up_value)
         simp only [Act.put, List.setIfInBounds_toArray, List.set_cons_zero, List.set_cons_succ])
        (refine Rr.wr_y (by simp only [List.getElem?_toArray, List.getElem?_cons_succ, List.getElem?_cons_zero]; rfl) (by rfl) ?_
         apply Exists.intro
         refine ⟨fun wz hw _ => ?_, ?_⟩
         · have hcz := hw.cells.1
           go_simp
           (with_reducible exact Rg.up_value)
         simp only [Act.put, List.setIfInBounds_toArray, List.set_cons_zero, List.set_cons_succ])
        (refine Rr.wr_y (by simp only [List.getElem?_toArray, List.getElem?_cons_succ, List.getElem?_cons_zero]; rfl) (by rfl) ?_
         apply Exists.intro
         refine ⟨fun wz hw _ => ?_, ?_⟩
         · have hcz := hw.cells.1
           go_simp
           (with_reducible exact Rg.up_value)
         simp only [Act.put, List.setIfInBounds_toArray, List.set_cons_zero, List.set_cons_succ])
        (refine Rr.wr_y (by simp only [List.getElem?_toArray, List.getElem?_cons_succ, List.getElem?_cons_zero]; rfl) (by rfl) ?_
         apply Exists.intro
         refine ⟨fun wz hw _ => ?_, ?_⟩
         · have hcz := hw.cells.1
           go_simp
           (with_reducible exact Rg.up_value)
         simp only [Act.put, List.setIfInBounds_toArray, List.set_cons_zero, List.set_cons_succ])
        (refine Rr.wr_y (by simp only [List.getElem?_toArray, List.getElem?_cons_succ, List.getElem?_cons_zero]; rfl) (by rfl) ?_
         apply Exists.intro
         refine ⟨fun wz hw _ => ?_, ?_⟩
         · have hcz := hw.cells.1
           go_simp
           (with_reducible exact Rg.up_value)
         simp only [Act.put, List.setIfInBounds_toArray, List.set_cons_zero, List.set_cons_succ])
        (refine Rr.wr_y (by simp only [List.getElem?_toArray, List.getElem?_cons_succ, List.getElem?_cons_zero]; rfl) (by rfl) ?_
         apply Exists.intro
         refine ⟨fun wz hw _ => ?_, ?_⟩
         · have hcz := hw.cells.1
           go_simp
           (with_reducible exact Rg.up_value)
         simp only [Act.put, List.setIfInBounds_toArray, List.set_cons_zero, List.set_cons_succ])
        (refine Rr.wr_y (by simp only [List.getElem?_toArray, List.getElem?_cons_succ, List.getElem?_cons_zero]; rfl) (by rfl) ?_
         apply Exists.intro
         refine ⟨fun wz hw _ => ?_, ?_⟩
         · have hcz := hw.cells.1
           go_simp
           (with_reducible exact Rg.up_value)
         simp only [Act.put, List.setIfInBounds_toArray, List.set_cons_zero, List.set_cons_succ])
        (refine Rr.wr_y (by simp only [List.getElem?_toArray, List.getElem?_cons_succ, List.getElem?_cons_zero]; rfl) (by rfl) ?_
         apply Exists.intro
         refine ⟨fun wz hw _ => ?_, ?_⟩
         · have hcz := hw.cells.1
           go_simp
           (with_reducible exact Rg.up_value)
         simp only [Act.put, List.setIfInBounds_toArray, List.set_cons_zero, List.set_cons_succ])
        refine Rr.wr_m (by simp only [List.getElem?_toArray, List.getElem?_cons_succ, List.getElem?_cons_zero]; rfl) (by rfl) (fun wz => by go_simp) (fun p hp => ?_)
        simp only [Act.put, List.setIfInBounds_toArray, List.set_cons_zero, List.set_cons_succ]
        refine Rr.wr_nil ?_
        intro wy hy hh
        obtain ⟨-, hb2⟩ := hh _ List.mem_cons_self
        simp only [List.length_cons, List.length_nil, List.drop_succ_cons, List.drop_zero, Nat.reduceAdd]
        have HP := Lib.hid hb2; have HY := Lib.hid hy
        clear hh hb2 hy
        refine append_g (cs := Lt.cs) (z := .agg #[.int .i64 0, .int .i64 0]) 42 71 16 Tryz.underlying42 (by kernel_rfl) (by rfl) (by decide) (by decide) rfl (.tmp 23) (.tmp 30) rfl B (.slice xb st.length xc) st (by rfl) (row_ext HROW.out HY.out) p ⟨z, 10⟩ ⟨rfl, by simp [Lt.cs, Value.oneCell']⟩ (by rfl) HP.out (by have := HL.out; omega) (by have := HY.out.size; omega) ?_
        intro g cap w6 hr6 hg6 hat6
        have hne : ∀ k, k < B → k < wy.heap.size → w6.heap[k]? = wy.heap[k]? := fun k hk hk2 => hg6.block k hk2 (fun e => by have := ((row_ext HROW.out HY.out).lt k e.symm).1; omega)
        have hT6 : w6.heap[t]? = _ := (hne t HB.out.2.1 (by have := HY.out.size; omega)).trans ((HY.out.block t ul).trans HT.out)
        have hC6 : w6.heap[pc]? = _ := (hne pc HB.out.2.2.1 (by have := HY.out.size; omega)).trans ((HY.out.block pc pl).trans HC.out)
        have hR6 : w6.heap[pr]? = _ := (hne pr HB.out.2.2.2.1 (by have := HY.out.size; have := Rg.lt_of_heap HR.out; omega)).trans ((HY.out.block pr (Rg.lt_of_heap HR.out)).trans HR.out)
        have hx6 : Ext w w6 := Below.trans (HX.out.trans HY.out) ⟨hg6.os, hg6.tape, hg6.output, hg6.size, fun k hk => hne k (by have := HB.out; omega) (by have := (HX.out.trans HY.out).size; omega)⟩
        have HT6 := Lib.hid hT6; have HC6 := Lib.hid hC6; have HR6 := Lib.hid hR6; have HX6 := Lib.hid hx6; have HR7 := Lib.hid hr6
        have HZ : Hid (B ≤ w6.heap.size) := Lib.hid (by have := HY.out.size; have := hg6.size; omega)
        obtain ⟨v1, -, vll, vf⟩ := tcells hT6
        have vf1 := vf 1
        clear hr6 hg6 hat6 hne hT6 hC6 hR6 hx6 u1 p0 vf
        go_wp2_with (fail)
        refine ⟨⟨j + 1, .slice (some ⟨g, 0, none⟩) (st.length + 1) cap, by simp, by omega, by omega, ⟨?_, heap_setCell_same w6 t 1 _ 55 _ HT6.out, ?_, ?_⟩, ?_, ?_⟩, by simp [iof]; omega⟩
        · exact (heap_setCell_other w6 _ pc _ (by have := HTN.out; show pc ≠ t; omega)).trans HC6.out
        · exact Below.setCell HX6.out (by have := HB.out; show _ ≤ t; omega) _
        · rw [World.size_setCell]; exact HZ.out
        · exact (heap_setCell_other w6 _ pr _ (by have := HTN.out; show pr ≠ t; omega)).trans HR6.out
        · rw [HS.out]
          exact row_set HR7.out HB.out.2.1 1 _
      · have ht : ls.take 3 = ls.take j := by
          rcases Nat.lt_or_ge j 3 with h | h
          · rw [List.take_of_length_le (by omega), List.take_of_length_le (by omega)]
          · rw [show j = 3 by omega]
        have HXX := Lib.hid (show _ ∧ _ ∧ _ from ⟨(⟨HC.out, HT.out, HX.out, hsz⟩ : MkS pc t B w wr _ _ _ _ _), HR.out, HROW.out⟩)
        rw [← ht] at HXX
        rcases (show ((j : Int) < (ls.length : Int) ∧ ¬ (j : Int) < 3) ∨ ¬ (j : Int) < (ls.length : Int) by omega) with ⟨h1, h2⟩ | h1
        all_goals
          go_wp2
          go_meet
          case rel => exact ⟨_, HXX.out⟩
  case rest =>
    obtain ⟨vl, ⟨hC, hT, hx, hsz⟩, hR, hrow⟩ := hcut
    obtain ⟨W3, rfl⟩ : ∃ W3 : World, W3 = wc := ⟨_, rfl⟩
    obtain ⟨lb, lc, rfl⟩ := (SR.of_row (cs := Lt.cs) (fun _ => rfl) hrow (by rw [List.length_map, List.length_take]; omega)).form
    obtain ⟨vl, hvl⟩ : ∃ vl, vl = Value.slice lb ((ls.take 3).map caL1).length lc := ⟨_, rfl⟩
    have hvo : vl.oneCell' = true := by rw [hvl]; rfl
    rw [← hvl] at hT hrow
    have HVO := Lib.hid hvo
    have HC3 := Lib.hid hC; have HT3 := Lib.hid hT; have HX3 := Lib.hid hx; have HR3 := Lib.hid hR; have HL3 := Lib.hid hrow; have HZ3 := Lib.hid hsz
    clear hC hT hx hR hrow hsz hvl hvo HC2 HT2 HX2 HR2
    go_upto_block 2 with (fail)
    go_cut [6] (fun s wx => ∃ vc, MkS pc t B w wx (.slice a0 ls.length c0) (.slice a1 cs.length c1) (.slice a2 ds.length c2) vl vc ∧ wx.heap[pr]? = some (.cells (tenC nilV nilV) 55) ∧ wx.ownsRow B 71 2 vl ((ls.take 3).map caL1).length (((ls.take 3).map caL1).flatMap Lt.cs) ∧ wx.ownsRow B 73 5 vc ((cs.take 4).map caC1).length (((cs.take 4).map caC1).flatMap Cr.cs))
    case first =>
      go_wp2_with (fail)
      go_loopw [6] (fun k wr => ∃ (j : Nat) (vc : Value), k = .int .i64 j ∧ j ≤ cs.length ∧ j ≤ 4 ∧ MkS pc t B w wr (.slice a0 ls.length c0) (.slice a1 cs.length c1) (.slice a2 ds.length c2) vl vc ∧ wr.heap[pr]? = some (.cells (tenC nilV nilV) 55) ∧ wr.ownsRow B 71 2 vl ((ls.take 3).map caL1).length (((ls.take 3).map caL1).flatMap Lt.cs) ∧ wr.ownsRow B 73 5 vc ((cs.take j).map caC1).length (((cs.take j).map caC1).flatMap Cr.cs)) (fun k _ => 4 - (iof k).toNat)
      case atStart => exact ⟨0, nilV, rfl, Nat.zero_le _, by omega, ⟨HC3.out, HT3.out, HX3.out, HZ3.out⟩, HR3.out, HL3.out, World.ownsRow_nil _ _ _ _⟩
      case round =>
        obtain ⟨j, vc, rfl, hj, hj3, ⟨hC, hT, hx, hsz⟩, hR, hrl, hrow⟩ := hrel
        obtain ⟨xb, xc, rfl⟩ := (SR.of_row (cs := Cr.cs) (fun _ => rfl) hrow (by rw [List.length_map, List.length_take]; omega)).form
        have HC := Lib.hid hC; have HT := Lib.hid hT; have HX := Lib.hid hx; have HR := Lib.hid hR; have HROW := Lib.hid hrow; have HRL := Lib.hid hrl; have HSZ := Lib.hid hsz
        have p1 := cell_of_row wr pc 1 _ _ _ hC
        have pl := Rg.lt_of_heap hC
        obtain ⟨-, u2, ul, -⟩ := tcells hT
        have hlen : ((cs.take j).map caC1).length = j := by rw [List.length_map, List.length_take]; omega
        clear hC hT hx hR hrow hrl hsz
        by_cases hgo : j < cs.length ∧ j < 4
        · obtain ⟨hlt, h3⟩ := hgo
          obtain ⟨b, off, rfl, hcc, hok⟩ := H1.out.at j hlt
          have q0 := (HX.out.cells.1 _ _ (World.block_lt_of_cell? w _ (hcc 0 (by decide)))).trans (hcc 0 (by decide))
          have q1 := (HX.out.cells.1 _ _ (World.block_lt_of_cell? w _ (hcc 1 (by decide)))).trans (hcc 1 (by decide))
          have q2 := (HX.out.cells.1 _ _ (World.block_lt_of_cell? w _ (hcc 2 (by decide)))).trans (hcc 2 (by decide))
          have q3 := (HX.out.cells.1 _ _ (World.block_lt_of_cell? w _ (hcc 3 (by decide)))).trans (hcc 3 (by decide))
          have hbr := World.block_lt_of_cell? wr _ q0
          have HS := Lib.hid (map_take_succ caC1 cs j hlt)
          have HN := Lib.hid (Name_any (cs[j].getD 0 0) (hok 0))
          have HE : Hid (caC1 cs[j] = ⟨nameB (modZ (cs[j].getD 0 0) 4).toNat, cs[j].getD 1 0, cs[j].getD 2 0, cs[j].getD 3 0, false⟩) := Lib.hid rfl
          have HL := Lib.hid hlen
          clear hcc hlen hok
          generalize caC1 cs[j] = zz at *
          generalize nameB (modZ (cs[j].getD 0 0) 4).toNat = nmz at *
          generalize (cs.take j).map caC1 = st at *
          generalize cs[j].getD 0 0 = z0 at *
          generalize cs[j].getD 1 0 = z1 at *
          generalize cs[j].getD 2 0 = z2 at *
          generalize cs[j].getD 3 0 = z3 at *
          simp only [Nat.add_zero] at q0
          have k6 : (j : Int) < 4 := by omega
          have k7 : (j : Int) < (cs.length : Int) := by omega
          go_upto_region 10 with (fail)
          have hxa : Ext wr (wr.alloc (.cells #[.int .i64 z0, .int .i64 z1, .int .i64 z2, .int .i64 z3] 110)) := Ext.alloc (Ext.refl _) _
          have hq := heap_alloc_new wr (.cells #[.int .i64 z0, .int .i64 z1, .int .i64 z2, .int .i64 z3] 110)
          have HT5 := Lib.hid ((hxa.block t ul).trans HT.out)
          have HC5 := Lib.hid ((hxa.block pc pl).trans HC.out)
          have HR5 := Lib.hid ((hxa.block pr (Rg.lt_of_heap HR.out)).trans HR.out)
          have HX5 := Lib.hid (HX.out.trans hxa)
          have HRW5 := Lib.hid (row_ext HROW.out hxa)
          have HRL5 := Lib.hid (row_ext HRL.out hxa)
          have HZ5 := Lib.hid (Nat.le_trans HSZ.out hxa.size)
          clear q0 q1 q2 q3 hbr p1 pl ul u2 HT HC HR HX HROW HRL HSZ hxa
          obtain ⟨qv, hqv⟩ : ∃ qv, qv = wr.heap.size := ⟨_, rfl⟩
          rw [← hqv] at hq ⊢
          clear hqv
          generalize wr.alloc (.cells #[.int .i64 z0, .int .i64 z1, .int .i64 z2, .int .i64 z3] 110) = w5 at *
          have d0 := cell_of_row w5 qv 0 _ _ _ hq
          have d1 := cell_of_row w5 qv 1 _ _ _ hq
          have d2 := cell_of_row w5 qv 2 _ _ _ hq
          have d3 := cell_of_row w5 qv 3 _ _ _ hq
          have dl := Rg.lt_of_heap hq
          obtain ⟨-, u2, ul, -⟩ := tcells HT5.out
          have pl := Rg.lt_of_heap HC5.out
          refine Rr.wp_region [(0, .y), (1, .y), (2, .y), (3, .y), (4, .y), (5, .y), (6, .y), (7, .y), (8, .y), (9, .y), (10, .y), (11, .y), (12, .m)] (fun _ => (.cells #[.string nmz, .int .i64 z1, .int .i64 z2, .int .i64 z3, .bool false] 73, fun p => .slice (some ⟨p, 0, none⟩) 1 1)) (by kernel_rfl) (by kernel_rfl) ?_
          (refine Rr.wr_y (by simp only [List.getElem?_toArray, List.getElem?_cons_succ, List.getElem?_cons_zero]; rfl) (by rfl) ?_
           apply Exists.intro
           refine ⟨fun wz hw _ => ?_, ?_⟩
           · have hcz := hw.cells.1
             go_simp
             (with_reducible exact Rg.up_value)
           simp only [Act.put, List.setIfInBounds_toArray, List.set_cons_zero, List.set_cons_succ])
          (refine Rr.wr_y (by simp only [List.getElem?_toArray, List.getElem?_cons_succ, List.getElem?_cons_zero]; rfl) (by rfl) ?_
           apply Exists.intro
           refine ⟨fun wz hw _ => ?_, ?_⟩
           · have hcz := hw.cells.1
             go_simp
             (with_reducible exact Rg.up_value)
           simp only [Act.put, List.setIfInBounds_toArray, List.set_cons_zero, List.set_cons_succ])
          (refine Rr.wr_y (by simp only [List.getElem?_toArray, List.getElem?_cons_succ, List.getElem?_cons_zero]; rfl) (by rfl) ?_
           apply Exists.intro
           refine ⟨fun wz hw _ => ?_, ?_⟩
           · have hcz := hw.cells.1
             go_simp
             (with_reducible exact Rg.up_value)
           simp only [Act.put, List.setIfInBounds_toArray, List.set_cons_zero, List.set_cons_succ])
          (refine Rr.wr_y (by simp only [List.getElem?_toArray, List.getElem?_cons_succ, List.getElem?_cons_zero]; rfl) (by rfl) ?_
           apply Exists.intro
           refine ⟨fun wz hw _ => ?_, ?_⟩
           · have hcz := hw.cells.1
             go_simp
             (with_reducible exact Rg.up_value)
           simp only [Act.put, List.setIfInBounds_toArray, List.set_cons_zero, List.set_cons_succ])
          (refine Rr.wr_y (by simp only [List.getElem?_toArray, List.getElem?_cons_succ, List.getElem?_cons_zero]; rfl) (by rfl) ?_
           apply Exists.intro
           refine ⟨fun wz hw _ => ?_, ?_⟩
           · have hcz := hw.cells.1
             go_simp
             apply Rg.up_enter
             (with_reducible refine (HN.out _).mono ?_)
             rintro e w3 ⟨rfl, hb3⟩
             exact ⟨rfl, hb3⟩
           simp only [Act.put, List.setIfInBounds_toArray, List.set_cons_zero, List.set_cons_succ])
          (refine Rr.wr_y (by simp only [List.getElem?_toArray, List.getElem?_cons_succ, List.getElem?_cons_zero]; rfl) (by rfl) ?_
           apply Exists.intro
           refine ⟨fun wz hw _ => ?_, ?_⟩
           · have hcz := hw.cells.1
             go_simp
             (with_reducible exact Rg.up_value)
           simp only [Act.put, List.setIfInBounds_toArray, List.set_cons_zero, List.set_cons_succ])
          (refine Rr.wr_y (by simp only [List.getElem?_toArray, List.getElem?_cons_succ, List.getElem?_cons_zero]; rfl) (by rfl) ?_
           apply Exists.intro
           refine ⟨fun wz hw _ => ?_, ?_⟩
           · have hcz := hw.cells.1
             go_simp
             (with_reducible exact Rg.up_value)
           simp only [Act.put, List.setIfInBounds_toArray, List.set_cons_zero, List.set_cons_succ])
          (refine Rr.wr_y (by simp only [List.getElem?_toArray, List.getElem?_cons_succ, List.getElem?_cons_zero]; rfl) (by rfl) ?_
           apply Exists.intro
           refine ⟨fun wz hw _ => ?_, ?_⟩
           · have hcz := hw.cells.1
             go_simp
             (with_reducible exact Rg.up_value)
           simp only [Act.put, List.setIfInBounds_toArray, List.set_cons_zero, List.set_cons_succ])
          (refine Rr.wr_y (by simp only [List.getElem?_toArray, List.getElem?_cons_succ, List.getElem?_cons_zero]; rfl) (by rfl) ?_
           apply Exists.intro
           refine ⟨fun wz hw _ => ?_, ?_⟩
           · have hcz := hw.cells.1
             go_simp
             (with_reducible exact Rg.up_value)
           simp only [Act.put, List.setIfInBounds_toArray, List.set_cons_zero, List.set_cons_succ])
          (refine Rr.wr_y (by simp only [List.getElem?_toArray, List.getElem?_cons_succ, List.getElem?_cons_zero]; rfl) (by rfl) ?_
           apply Exists.intro
           refine ⟨fun wz hw _ => ?_, ?_⟩
           · have hcz := hw.cells.1
             go_simp
             (with_reducible exact Rg.up_value)
           simp only [Act.put, List.setIfInBounds_toArray, List.set_cons_zero, List.set_cons_succ])
          (refine Rr.wr_y (by simp only [List.getElem?_toArray, List.getElem?_cons_succ, List.getElem?_cons_zero]; rfl) (by rfl) ?_
           apply Exists.intro
           refine ⟨fun wz hw _ => ?_, ?_⟩
           · have hcz := hw.cells.1
             go_simp
             (with_reducible exact Rg.up_value)
           simp only [Act.put, List.setIfInBounds_toArray, List.set_cons_zero, List.set_cons_succ])
          (refine Rr.wr_y (by simp only [List.getElem?_toArray, List.getElem?_cons_succ, List.getElem?_cons_zero]; rfl) (by rfl) ?_
           apply Exists.intro
           refine ⟨fun wz hw _ => ?_, ?_⟩
           · have hcz := hw.cells.1
             go_simp
             (with_reducible exact Rg.up_value)
           simp only [Act.put, List.setIfInBounds_toArray, List.set_cons_zero, List.set_cons_succ])
          refine Rr.wr_m (by simp only [List.getElem?_toArray, List.getElem?_cons_succ, List.getElem?_cons_zero]; rfl) (by rfl) (fun wz => by go_simp) (fun p hp => ?_)
          simp only [Act.put, List.setIfInBounds_toArray, List.set_cons_zero, List.set_cons_succ]
          refine Rr.wr_nil ?_
          intro wy hy hh
          obtain ⟨-, hb2⟩ := hh _ List.mem_cons_self
          simp only [List.length_cons, List.length_nil, List.drop_succ_cons, List.drop_zero, Nat.reduceAdd]
          have HP := Lib.hid hb2; have HY := Lib.hid hy
          clear hh hb2 hy
          refine append_g (cs := Cr.cs) (z := .agg #[.string ⟨#[]⟩, .int .i64 0, .int .i64 0, .int .i64 0, .bool false]) 43 73 48 Tryz.underlying43 (by kernel_rfl) (by rfl) (by decide) (by decide) rfl (.tmp 50) (.tmp 61) rfl B (.slice xb st.length xc) st (by rfl) (row_ext HRW5.out HY.out) p ⟨nmz, z1, z2, z3, false⟩ ⟨rfl, by simp [Cr.cs, Value.oneCell']⟩ (by rfl) HP.out (by have := HL.out; omega) (by have := HY.out.size; have := HZ5.out; omega) ?_
          intro g cap w6 hr6 hg6 hat6
          have hne : ∀ k, k < B → k < wy.heap.size → w6.heap[k]? = wy.heap[k]? := fun k hk hk2 => hg6.block k hk2 (fun e => by have := ((row_ext HRW5.out HY.out).lt k e.symm).1; omega)
          have hyz := HY.out.size
          have hT6 : w6.heap[t]? = _ := (hne t HB.out.2.1 (by omega)).trans ((HY.out.block t ul).trans HT5.out)
          have hC6 : w6.heap[pc]? = _ := (hne pc HB.out.2.2.1 (by omega)).trans ((HY.out.block pc pl).trans HC5.out)
          have hR6 : w6.heap[pr]? = _ := (hne pr HB.out.2.2.2.1 (by have := Rg.lt_of_heap HR5.out; omega)).trans ((HY.out.block pr (Rg.lt_of_heap HR5.out)).trans HR5.out)
          have hx6 : Ext w w6 := Below.trans (HX5.out.trans HY.out) ⟨hg6.os, hg6.tape, hg6.output, hg6.size, fun k hk => hne k (by have := HB.out; omega) (by have := (HX5.out.trans HY.out).size; omega)⟩
          have HT6 := Lib.hid hT6; have HC6 := Lib.hid hC6; have HR6 := Lib.hid hR6; have HX6 := Lib.hid hx6; have HR7 := Lib.hid hr6
          have HL6 := Lib.hid (row_grown (row_ext HRL5.out HY.out) (row_ext HRW5.out HY.out) (by decide) hg6)
          have HZ : Hid (B ≤ w6.heap.size) := Lib.hid (by have := HZ5.out; have := hg6.size; omega)
          obtain ⟨-, v1, vll, vf⟩ := tcells hT6
          have vf1 := vf 2
          clear hr6 hg6 hat6 hne hT6 hC6 hR6 hx6 u2 vf hyz d0 d1 d2 d3 dl
          go_wp2_with (fail)
          refine ⟨⟨j + 1, .slice (some ⟨g, 0, none⟩) (st.length + 1) cap, by simp, by omega, by omega, ⟨?_, heap_setCell_same w6 t 2 _ 55 _ HT6.out, ?_, ?_⟩, ?_, row_set HL6.out HB.out.2.1 2 _, ?_⟩, by simp [iof]; omega⟩
          · exact (heap_setCell_other w6 _ pc _ (by have := HTN.out; show pc ≠ t; omega)).trans HC6.out
          · exact Below.setCell HX6.out (by have := HB.out; show _ ≤ t; omega) _
          · rw [World.size_setCell]; exact HZ.out
          · exact (heap_setCell_other w6 _ pr _ (by have := HTN.out; show pr ≠ t; omega)).trans HR6.out
          · rw [HS.out, HE.out]
            exact row_set HR7.out HB.out.2.1 2 _
        · have ht : cs.take 4 = cs.take j := by
            rcases Nat.lt_or_ge j 4 with h | h
            · rw [List.take_of_length_le (by omega), List.take_of_length_le (by omega)]
            · rw [show j = 4 by omega]
          have HXX := Lib.hid (show _ ∧ _ ∧ _ ∧ _ from ⟨(⟨HC.out, HT.out, HX.out, HSZ.out⟩ : MkS pc t B w wr _ _ _ _ _), HR.out, HRL.out, HROW.out⟩)
          rw [← ht] at HXX
          rcases (show ((j : Int) < (cs.length : Int) ∧ ¬ (j : Int) < 4) ∨ ¬ (j : Int) < (cs.length : Int) by omega) with ⟨h1, h2⟩ | h1
          all_goals
            go_wp2
            go_meet
            case rel => exact ⟨_, HXX.out⟩
    case rest =>
      obtain ⟨vc, ⟨hC, hT, hx, hsz⟩, hR, hrl, hrow⟩ := hcut
      obtain ⟨W4, rfl⟩ : ∃ W4 : World, W4 = wc := ⟨_, rfl⟩
      obtain ⟨lb, lc, rfl⟩ := (SR.of_row (cs := Cr.cs) (fun _ => rfl) hrow (by rw [List.length_map, List.length_take]; omega)).form
      obtain ⟨vc, hvc⟩ : ∃ vc, vc = Value.slice lb ((cs.take 4).map caC1).length lc := ⟨_, rfl⟩
      have hvo : vc.oneCell' = true := by rw [hvc]; rfl
      rw [← hvc] at hT hrow
      have HVC := Lib.hid hvo
      have HC4 := Lib.hid hC; have HT4 := Lib.hid hT; have HX4 := Lib.hid hx; have HR4 := Lib.hid hR; have HL4 := Lib.hid hrl; have HK4 := Lib.hid hrow; have HZ4 := Lib.hid hsz
      clear hC hT hx hR hrl hrow hsz hvc hvo HC3 HT3 HX3 HR3 HL3 HZ3
      go_upto_block 4 with (fail)
      go_cut [8, 9] (fun s8 s9 wx => MkS pc t B w wx (.slice a0 ls.length c0) (.slice a1 cs.length c1) (.slice a2 ds.length c2) vl vc ∧ wx.heap[pr]? = some (.cells (tenC nilV nilV) 55) ∧ wx.ownsRow B 71 2 vl ((ls.take 3).map caL1).length (((ls.take 3).map caL1).flatMap Lt.cs) ∧ wx.ownsRow B 73 5 vc ((cs.take 4).map caC1).length (((cs.take 4).map caC1).flatMap Cr.cs) ∧ wx.ownsRow B 57 2 s8 ((ds.take 9).map caD1).length (((ds.take 9).map caD1).flatMap Dy.cs))
      case first =>
        go_wp2_with (fail)
        go_loopw [8, 9] (fun vd k wr => ∃ j : Nat, k = .int .i64 j ∧ j ≤ ds.length ∧ j ≤ 9 ∧ MkS pc t B w wr (.slice a0 ls.length c0) (.slice a1 cs.length c1) (.slice a2 ds.length c2) vl vc ∧ wr.heap[pr]? = some (.cells (tenC nilV nilV) 55) ∧ wr.ownsRow B 71 2 vl ((ls.take 3).map caL1).length (((ls.take 3).map caL1).flatMap Lt.cs) ∧ wr.ownsRow B 73 5 vc ((cs.take 4).map caC1).length (((cs.take 4).map caC1).flatMap Cr.cs) ∧ wr.ownsRow B 57 2 vd ((ds.take j).map caD1).length (((ds.take j).map caD1).flatMap Dy.cs)) (fun _ k _ => 9 - (iof k).toNat)
        case atStart => exact ⟨0, rfl, Nat.zero_le _, by omega, ⟨HC4.out, HT4.out, HX4.out, HZ4.out⟩, HR4.out, HL4.out, HK4.out, World.ownsRow_nil _ _ _ _⟩
        case round =>
          obtain ⟨j, rfl, hj, hj3, ⟨hC, hT, hx, hsz⟩, hR, hrl, hrk, hrow⟩ := hrel
          obtain ⟨xb, xc, rfl⟩ := (SR.of_row (cs := Dy.cs) (fun _ => rfl) hrow (by rw [List.length_map, List.length_take]; omega)).form
          have HC := Lib.hid hC; have HT := Lib.hid hT; have HX := Lib.hid hx; have HR := Lib.hid hR; have HROW := Lib.hid hrow; have HRL := Lib.hid hrl; have HRK := Lib.hid hrk; have HSZ := Lib.hid hsz
          have p1 := cell_of_row wr pc 2 _ _ _ hC
          have pl := Rg.lt_of_heap hC
          have ul := Rg.lt_of_heap hT
          have hlen : ((ds.take j).map caD1).length = j := by rw [List.length_map, List.length_take]; omega
          clear hC hT hx hR hrow hrl hrk hsz
          by_cases hgo : j < ds.length ∧ j < 9
          · obtain ⟨hlt, h3⟩ := hgo
            obtain ⟨b, off, rfl, hcc, hok⟩ := H2.out.at j hlt
            have q0 := (HX.out.cells.1 _ _ (World.block_lt_of_cell? w _ (hcc 0 (by decide)))).trans (hcc 0 (by decide))
            have q1 := (HX.out.cells.1 _ _ (World.block_lt_of_cell? w _ (hcc 1 (by decide)))).trans (hcc 1 (by decide))
            have hbr := World.block_lt_of_cell? wr _ q0
            have HS := Lib.hid (map_take_succ caD1 ds j hlt)
            have HE : Hid (caD1 ds[j] = ⟨ds[j].getD 0 0, ds[j].getD 1 0⟩) := Lib.hid rfl
            have HL := Lib.hid hlen
            clear hcc hlen hok
            generalize caD1 ds[j] = zz at *
            generalize (ds.take j).map caD1 = st at *
            generalize ds[j].getD 0 0 = z0 at *
            generalize ds[j].getD 1 0 = z1 at *
            simp only [Nat.add_zero] at q0
            have k6 : (j : Int) < 9 := by omega
            have k7 : (j : Int) < (ds.length : Int) := by omega
            go_wp2_with (fail)
            refine Rr.wp_region [(0, .y), (1, .y), (2, .y), (3, .y), (4, .y), (5, .y), (6, .y), (7, .y), (8, .y), (9, .y), (10, .y), (11, .y), (12, .y), (13, .y), (14, .m)] (fun _ => (.cells #[.int .i64 z0, .int .i64 z1] 57, fun p => .slice (some ⟨p, 0, none⟩) 1 1)) (by kernel_rfl) (by kernel_rfl) ?_
            (refine Rr.wr_y (by simp only [List.getElem?_toArray, List.getElem?_cons_succ, List.getElem?_cons_zero]; rfl) (by rfl) ?_
             apply Exists.intro
             refine ⟨fun wz hw _ => ?_, ?_⟩
             · have hcz := hw.cells.1
               go_simp
               (with_reducible exact Rg.up_value)
             simp only [Act.put, List.setIfInBounds_toArray, List.set_cons_zero, List.set_cons_succ])
            (refine Rr.wr_y (by simp only [List.getElem?_toArray, List.getElem?_cons_succ, List.getElem?_cons_zero]; rfl) (by rfl) ?_
             apply Exists.intro
             refine ⟨fun wz hw _ => ?_, ?_⟩
             · have hcz := hw.cells.1
               go_simp
               (with_reducible exact Rg.up_value)
             simp only [Act.put, List.setIfInBounds_toArray, List.set_cons_zero, List.set_cons_succ])
            (refine Rr.wr_y (by simp only [List.getElem?_toArray, List.getElem?_cons_succ, List.getElem?_cons_zero]; rfl) (by rfl) ?_
             apply Exists.intro
             refine ⟨fun wz hw _ => ?_, ?_⟩
             · have hcz := hw.cells.1
               go_simp
               (with_reducible exact Rg.up_value)
             simp only [Act.put, List.setIfInBounds_toArray, List.set_cons_zero, List.set_cons_succ])
            (refine Rr.wr_y (by simp only [List.getElem?_toArray, List.getElem?_cons_succ, List.getElem?_cons_zero]; rfl) (by rfl) ?_
             apply Exists.intro
             refine ⟨fun wz hw _ => ?_, ?_⟩
             · have hcz := hw.cells.1
               go_simp
               (with_reducible exact Rg.up_value)
             simp only [Act.put, List.setIfInBounds_toArray, List.set_cons_zero, List.set_cons_succ])
            (refine Rr.wr_y (by simp only [List.getElem?_toArray, List.getElem?_cons_succ, List.getElem?_cons_zero]; rfl) (by rfl) ?_
             apply Exists.intro
             refine ⟨fun wz hw _ => ?_, ?_⟩
             · have hcz := hw.cells.1
               go_simp
               (with_reducible exact Rg.up_value)
             simp only [Act.put, List.setIfInBounds_toArray, List.set_cons_zero, List.set_cons_succ])
            (refine Rr.wr_y (by simp only [List.getElem?_toArray, List.getElem?_cons_succ, List.getElem?_cons_zero]; rfl) (by rfl) ?_
             apply Exists.intro
             refine ⟨fun wz hw _ => ?_, ?_⟩
             · have hcz := hw.cells.1
               go_simp
               (with_reducible exact Rg.up_value)
             simp only [Act.put, List.setIfInBounds_toArray, List.set_cons_zero, List.set_cons_succ])
            (refine Rr.wr_y (by simp only [List.getElem?_toArray, List.getElem?_cons_succ, List.getElem?_cons_zero]; rfl) (by rfl) ?_
             apply Exists.intro
             refine ⟨fun wz hw _ => ?_, ?_⟩
             · have hcz := hw.cells.1
               go_simp
               (with_reducible exact Rg.up_value)
             simp only [Act.put, List.setIfInBounds_toArray, List.set_cons_zero, List.set_cons_succ])
            (refine Rr.wr_y (by simp only [List.getElem?_toArray, List.getElem?_cons_succ, List.getElem?_cons_zero]; rfl) (by rfl) ?_
             apply Exists.intro
             refine ⟨fun wz hw _ => ?_, ?_⟩
             · have hcz := hw.cells.1
               go_simp
               (with_reducible exact Rg.up_value)
             simp only [Act.put, List.setIfInBounds_toArray, List.set_cons_zero, List.set_cons_succ])
            (refine Rr.wr_y (by simp only [List.getElem?_toArray, List.getElem?_cons_succ, List.getElem?_cons_zero]; rfl) (by rfl) ?_
             apply Exists.intro
             refine ⟨fun wz hw _ => ?_, ?_⟩
             · have hcz := hw.cells.1
               go_simp
               (with_reducible exact Rg.up_value)
             simp only [Act.put, List.setIfInBounds_toArray, List.set_cons_zero, List.set_cons_succ])
            (refine Rr.wr_y (by simp only [List.getElem?_toArray, List.getElem?_cons_succ, List.getElem?_cons_zero]; rfl) (by rfl) ?_
             apply Exists.intro
             refine ⟨fun wz hw _ => ?_, ?_⟩
             · have hcz := hw.cells.1
               go_simp
               (with_reducible exact Rg.up_value)
             simp only [Act.put, List.setIfInBounds_toArray, List.set_cons_zero, List.set_cons_succ])
            (refine Rr.wr_y (by simp only [List.getElem?_toArray, List.getElem?_cons_succ, List.getElem?_cons_zero]; rfl) (by rfl) ?_
             apply Exists.intro
             refine ⟨fun wz hw _ => ?_, ?_⟩
             · have hcz := hw.cells.1
               go_simp
               (with_reducible exact Rg.up_value)
             simp only [Act.put, List.setIfInBounds_toArray, List.set_cons_zero, List.set_cons_succ])
            (refine Rr.wr_y (by simp only [List.getElem?_toArray, List.getElem?_cons_succ, List.getElem?_cons_zero]; rfl) (by rfl) ?_
             apply Exists.intro
             refine ⟨fun wz hw _ => ?_, ?_⟩
             · have hcz := hw.cells.1
               go_simp
               (with_reducible exact Rg.up_value)
             simp only [Act.put, List.setIfInBounds_toArray, List.set_cons_zero, List.set_cons_succ])
            (refine Rr.wr_y (by simp only [List.getElem?_toArray, List.getElem?_cons_succ, List.getElem?_cons_zero]; rfl) (by rfl) ?_
             apply Exists.intro
             refine ⟨fun wz hw _ => ?_, ?_⟩
             · have hcz := hw.cells.1
               go_simp
               (with_reducible exact Rg.up_value)
             simp only [Act.put, List.setIfInBounds_toArray, List.set_cons_zero, List.set_cons_succ])
            (refine Rr.wr_y (by simp only [List.getElem?_toArray, List.getElem?_cons_succ, List.getElem?_cons_zero]; rfl) (by rfl) ?_
             apply Exists.intro
             refine ⟨fun wz hw _ => ?_, ?_⟩
             · have hcz := hw.cells.1
               go_simp
               (with_reducible exact Rg.up_value)
             simp only [Act.put, List.setIfInBounds_toArray, List.set_cons_zero, List.set_cons_succ])
            refine Rr.wr_m (by simp only [List.getElem?_toArray, List.getElem?_cons_succ, List.getElem?_cons_zero]; rfl) (by rfl) (fun wz => by go_simp) (fun p hp => ?_)
            simp only [Act.put, List.setIfInBounds_toArray, List.set_cons_zero, List.set_cons_succ]
            refine Rr.wr_nil ?_
            intro wy hy hh
            obtain ⟨-, hb2⟩ := hh _ List.mem_cons_self
            simp only [List.length_cons, List.length_nil, List.drop_succ_cons, List.drop_zero, Nat.reduceAdd]
            have HP := Lib.hid hb2; have HY := Lib.hid hy
            clear hh hb2 hy
            refine append_g (cs := Dy.cs) (z := .agg #[.int .i64 0, .int .i64 0]) 58 57 16 Tryz.underlying58 (by kernel_rfl) (by rfl) (by decide) (by decide) rfl (.tmp 75) (.tmp 89) rfl B (.slice xb st.length xc) st (by rfl) (row_ext HROW.out HY.out) p ⟨z0, z1⟩ ⟨rfl, by simp [Dy.cs, Value.oneCell']⟩ (by rfl) HP.out (by have := HL.out; omega) (by have := HY.out.size; have := HSZ.out; omega) ?_
            intro g cap w6 hr6 hg6 hat6
            have hne : ∀ k, k < B → k < wy.heap.size → w6.heap[k]? = wy.heap[k]? := fun k hk hk2 => hg6.block k hk2 (fun e => by have := ((row_ext HROW.out HY.out).lt k e.symm).1; omega)
            have hyz := HY.out.size
            have HT6 : Hid (w6.heap[t]? = _) := Lib.hid ((hne t HB.out.2.1 (by omega)).trans ((HY.out.block t ul).trans HT.out))
            have HC6 : Hid (w6.heap[pc]? = _) := Lib.hid ((hne pc HB.out.2.2.1 (by omega)).trans ((HY.out.block pc pl).trans HC.out))
            have HR6 : Hid (w6.heap[pr]? = _) := Lib.hid ((hne pr HB.out.2.2.2.1 (by have := Rg.lt_of_heap HR.out; omega)).trans ((HY.out.block pr (Rg.lt_of_heap HR.out)).trans HR.out))
            have HX6 : Hid (Ext w w6) := Lib.hid (Below.trans (HX.out.trans HY.out) ⟨hg6.os, hg6.tape, hg6.output, hg6.size, fun k hk => hne k (by have := HB.out; omega) (by have := (HX.out.trans HY.out).size; omega)⟩)
            have HR7 := Lib.hid hr6
            have HL6 := Lib.hid (row_grown (row_ext HRL.out HY.out) (row_ext HROW.out HY.out) (by decide) hg6)
            have HK6 := Lib.hid (row_grown (row_ext HRK.out HY.out) (row_ext HROW.out HY.out) (by decide) hg6)
            have HZ : Hid (B ≤ w6.heap.size) := Lib.hid (by have := HSZ.out; have := hg6.size; omega)
            clear hr6 hg6 hat6 hne hyz p1 q0 q1
            go_wp2_with (fail)
            refine ⟨⟨j + 1, by simp, by omega, by omega, ⟨HC6.out, HT6.out, HX6.out, HZ.out⟩, HR6.out, HL6.out, HK6.out, ?_⟩, by simp [iof]; omega⟩
            rw [HS.out, HE.out]
            exact HR7.out
          · have ht : ds.take 9 = ds.take j := by
              rcases Nat.lt_or_ge j 9 with h | h
              · rw [List.take_of_length_le (by omega), List.take_of_length_le (by omega)]
              · rw [show j = 9 by omega]
            have hr9 : wr.ownsRow B 57 2 (.slice xb j xc) ((ds.take 9).map caD1).length (((ds.take 9).map caD1).flatMap Dy.cs) := by
              have h := HROW.out
              rw [ht]
              rw [hlen] at h ⊢
              exact h
            have HXX := Lib.hid (show _ ∧ _ ∧ _ ∧ _ ∧ _ from ⟨(⟨HC.out, HT.out, HX.out, HSZ.out⟩ : MkS pc t B w wr _ _ _ _ _), HR.out, HRL.out, HRK.out, hr9⟩)
            clear hr9
            rcases (show ((j : Int) < (ds.length : Int) ∧ ¬ (j : Int) < 9) ∨ ¬ (j : Int) < (ds.length : Int) by omega) with ⟨h1, h2⟩ | h1
            all_goals
              go_wp2
              go_meet
              case rel => exact HXX.out
      case rest =>
        obtain ⟨⟨hC, hT, hx, hsz⟩, hR, hrl, hrk, hrow⟩ := hcut
        have HT := Lib.hid hT; have HR := Lib.hid hR
        clear hT hR
        go_wp2_with (first
          | (refine wpList_load_row (hgd := rfl) 55 (.tmp 4) rfl t (by rfl) 55 _ _ _ HT.out Tryz.underlying55 rfl (by kernel_rfl) ?_)
          | (refine wpList_store_row (hgd := rfl) 55 (.tmp 2) (.tmp 91) rfl pr (by rfl) (tenC vl vc) (by rfl) _ 55 HR.out (by rfl) (by kernel_rfl) (ten_one _ _ HVO.out HVC.out) ?_))
        have hR5 := setRow_heap wc pr _ (tenC vl vc) 55 _ HR.out
        refine bodyPost_ret (v := .tuple #[.agg (tenC vl vc), u8]) (results_row_tmp Tryz.results16 _ _ pr 55 _ _ _ (by rfl) hR5 _ (by rfl) Tryz.underlying55 rfl (by kernel_rfl)) rfl ⟨vl, vc, u8, rfl, below_setRow hx (by have := HTN.out; have := HPR.out; omega) _, ?_, ?_, ?_⟩
        · exact row_base (row_of_block hrl (fun k hk => setRow_other _ _ _ _ (by have := (hrl.lt k hk).1; have := HB.out; omega))) (by have := HB.out; omega)
        · exact row_base (row_of_block hrk (fun k hk => setRow_other _ _ _ _ (by have := (hrk.lt k hk).1; have := HB.out; omega))) (by have := HB.out; omega)
        · exact row_base (row_of_block hrow (fun k hk => setRow_other _ _ _ _ (by have := (hrow.lt k hk).1; have := HB.out; omega))) (by have := HB.out; omega)
end Go.Proofs.YtnplnfkmcfalhaaGreatDoor
