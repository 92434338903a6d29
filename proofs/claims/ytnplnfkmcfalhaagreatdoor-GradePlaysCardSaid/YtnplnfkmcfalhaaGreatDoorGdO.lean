/-
  The reference's New: lots, criteria and duties, each once. Conditions: what the slices hold.
-/
import Derived.Test.YtnplnfkmcfalhaaGreatDoorGdN
namespace Go.Proofs.YtnplnfkmcfalhaaGreatDoor
set_option linter.unusedVariables false
set_option linter.unusedSimpArgs false
open Go.RowKit

section
variable {ρ : Operand → Value} {d : Option Tmp} {x : Operand} {ty : TypeId} {ps : String} {af : Array Edge} {gd : Option (Nat × Bool)} {w : World} {b o : Nat}
theorem up_load71 {c0 c1 c2 c3 c4 : Value} (hx : ρ x = .pointer (some ⟨b, o, none⟩)) (h0 : w.cell? ⟨b, o, none⟩ = some c0) (h1 : w.cell? ⟨b, o + 1, none⟩ = some c1) (h2 : w.cell? ⟨b, o + 2, none⟩ = some c2) (h3 : w.cell? ⟨b, o + 3, none⟩ = some c3) (h4 : w.cell? ⟨b, o + 4, none⟩ = some c4) :
    Rg.up Tryz.prog w (.agg #[c0, c1, c2, c3, c4]) ((execOp ρ { dst := d, op := .load 73 x, type := ty, pos := ps, after := af, guard := gd }).run Tryz.prog w) := by
  simp only [execOp, hx]
  go_simp
  exact Rg.up_value
theorem up_load51 {c0 c1 : Value} (hx : ρ x = .pointer (some ⟨b, o, none⟩)) (h0 : w.cell? ⟨b, o, none⟩ = some c0) (h1 : w.cell? ⟨b, o + 1, none⟩ = some c1) :
    Rg.up Tryz.prog w (.agg #[c0, c1]) ((execOp ρ { dst := d, op := .load 57 x, type := ty, pos := ps, after := af, guard := gd }).run Tryz.prog w) := by
  simp only [execOp, hx]
  go_simp
  exact Rg.up_value
end
/-- The reference's book at p. -/
def RB (B : Nat) (w : World) (p : Nat) (L : List Int) (C : List Cr) (D : List Dy) : Prop :=
  ∃ vl vc vd, B ≤ p ∧ (∃ v3 v4 v5, w.heap[p]? = some (.cells #[vl, vc, vd, v3, v4, v5] 80)) ∧ w.ownsRow B 3 1 vl L.length (L.flatMap celI) ∧ w.ownsRow B 73 5 vc C.length (C.flatMap Cr.cs) ∧ w.ownsRow B 57 2 vd D.length (D.flatMap Dy.cs)
theorem RB.ext {B : Nat} {w w' : World} {p : Nat} {L : List Int} {C : List Cr} {D : List Dy} (h : RB B w p L C D) (e : Ext w w') : RB B w' p L C D := by
  obtain ⟨vl, vc, vd, h0, ⟨v3, v4, v5, h1⟩, h2, h3, h4⟩ := h
  exact ⟨vl, vc, vd, h0, ⟨v3, v4, v5, (e.block _ (Rg.lt_of_heap h1)).trans h1⟩, row_ext h2 e, row_ext h3 e, row_ext h4 e⟩
theorem RB.kc {B : Nat} {w w' : World} {p : Nat} {L : List Int} {C : List Cr} {D : List Dy} (h : RB B w p L C D) (e : Kc w w') : RB B w' p L C D := by
  obtain ⟨vl, vc, vd, h0, ⟨v3, v4, v5, h1⟩, h2, h3, h4⟩ := h
  exact ⟨vl, vc, vd, h0, ⟨v3, v4, v5, e _ _ _ _ h1 (by decide) (by decide)⟩, e.row h2 (by decide) (by decide), e.row h3 (by decide) (by decide), e.row h4 (by decide) (by decide)⟩
/-- The reference's New under way: the argument's block, the book. -/
def NwS (pc pb B : Nat) (w0 wr : World) (ten : Array Value) (vl vc vd : Value) : Prop :=
  wr.heap[pc]? = some (.cells ten 55) ∧ wr.heap[pb]? = some (.cells #[vl, vc, vd, nilV, nilV, nilV] 80) ∧ Ext w0 wr ∧ B ≤ wr.heap.size
theorem NwS.ext {pc pb B : Nat} {w0 wr w' : World} {ten : Array Value} {vl vc vd : Value} (h : NwS pc pb B w0 wr ten vl vc vd) (e : Ext wr w') : NwS pc pb B w0 w' ten vl vc vd :=
  ⟨(e.block _ (Rg.lt_of_heap h.1)).trans h.1, (e.block _ (Rg.lt_of_heap h.2.1)).trans h.2.1, h.2.2.1.trans e, Nat.le_trans h.2.2.2 e.size⟩
/-- Behind an append to a row that lies above B. -/
theorem NwS.gro {pc pb B E sz n : Nat} {w0 wr w' : World} {ten : Array Value} {vl vc vd v : Value} {xs : List Value} (h : NwS pc pb B w0 wr ten vl vc vd) (hr : wr.ownsRow B E sz v n xs) (hg : wr.grownBy w' v.ownBlock) (hc : pc < B) (hb : pb < B) (h0 : w0.heap.size ≤ B) : NwS pc pb B w0 w' ten vl vc vd := by
  have hne : ∀ k, k < B → k < wr.heap.size → w'.heap[k]? = wr.heap[k]? := fun k hk hk2 => hg.block k hk2 (fun e => by have := (hr.lt k e.symm).1; omega)
  refine ⟨(hne pc hc (Rg.lt_of_heap h.1)).trans h.1, (hne pb hb (Rg.lt_of_heap h.2.1)).trans h.2.1, Below.trans h.2.2.1 ⟨hg.os, hg.tape, hg.output, hg.size, fun k hk => hne k (by omega) (by have := h.2.2.1.size; omega)⟩, Nat.le_trans h.2.2.2 hg.size⟩
theorem bcells {w : World} {p : Nat} {vl vc vd v3 v4 v5 : Value} (h : w.heap[p]? = some (.cells #[vl, vc, vd, v3, v4, v5] 80)) : w.cell? ⟨p, 0, none⟩ = some vl ∧ w.cell? ⟨p, 1, none⟩ = some vc ∧ w.cell? ⟨p, 2, none⟩ = some vd ∧ p < w.heap.size ∧ ∀ i, w.frozen? ⟨p, i, none⟩ = false := by
  obtain ⟨hc, hf, hl⟩ := Rg.cells_of h
  exact ⟨hc 0, hc 1, hc 2, hl, hf⟩

set_option maxRecDepth 100000 in
set_option maxHeartbeats 4000000 in
theorem refNew_w (ls : List Lt) (cs : List Cr) (ds : List Dy) (vl vc vd : Value) (w : World) (hl : SR Lt.cs 2 w vl ls) (hc : SR Cr.cs 5 w vc cs) (hd : SR Dy.cs 2 w vd ds)
    (hlo : ∀ l ∈ ls, OkI l.id) (hll : ls.length ≤ 1000) (hcl : cs.length ≤ 1000) (hdl : ds.length ≤ 1000) :
    Calls Tryz.prog 17 #[.agg (tenC vl vc), vd] w fun e w' => ∃ p xl xc xd, e = .returned (.pointer (some ⟨p, 0, none⟩)) ∧ w.heap.size ≤ p ∧ w'.heap[p]? = some (.cells #[xl, xc, xd, nilV, nilV, nilV] 80) ∧ w'.ownsRow w.heap.size 3 1 xl (lotsW ls).length ((lotsW ls).flatMap celI) ∧ w'.ownsRow w.heap.size 73 5 xc (crisW cs).length ((crisW cs).flatMap Cr.cs) ∧ w'.ownsRow w.heap.size 57 2 xd (dutsW ds).length ((dutsW ds).flatMap Dy.cs) ∧ Ext w w' := by
  obtain ⟨bl, cl, rfl⟩ := hl.form
  obtain ⟨bc, cc, rfl⟩ := hc.form
  obtain ⟨bd, cd, rfl⟩ := hd.form
  have HL := Lib.hid hl; have HC := Lib.hid hc; have HD := Lib.hid hd; have HLO := Lib.hid hlo
  clear hl hc hd hlo
  obtain ⟨ten, hten⟩ : ∃ ten, ten = tenC (.slice bl ls.length cl) (.slice bc cs.length cc) := ⟨_, rfl⟩
  unfold tenC
  go_enter Tryz.func17, Tryz.ntmps17
  go_upto_region 3 with (fail)
  obtain ⟨W1, hW1⟩ : ∃ W1, W1 = (w.alloc (.cells ten 55)).alloc (.cells #[nilV, nilV, nilV, nilV, nilV, nilV] 80) := ⟨_, rfl⟩
  have hx1 : Ext w W1 := by rw [hW1]; exact Ext.alloc (Ext.alloc (Ext.refl _) _) _
  have hT1 : W1.heap[w.heap.size]? = some (.cells ten 55) := by rw [hW1, Below.heap_alloc _ _ _ (by simp)]; exact heap_alloc_new _ _
  have hR1 : W1.heap[w.heap.size + 1]? = some (.cells #[nilV, nilV, nilV, nilV, nilV, nilV] 80) := by rw [hW1]; exact heap_at _ _ _ (by simp)
  have hs1 : W1.heap.size = w.heap.size + 2 := by rw [hW1]; simp
  rw [hten] at hW1
  unfold tenC at hW1
  rw [← hW1]
  obtain ⟨pc, hpc⟩ : ∃ pc, pc = w.heap.size := ⟨_, rfl⟩
  obtain ⟨pb, hpb⟩ : ∃ pb, pb = w.heap.size + 1 := ⟨_, rfl⟩
  obtain ⟨B, hB⟩ : ∃ B, B = W1.heap.size := ⟨_, rfl⟩
  rw [← hpb] at hR1 ⊢
  rw [← hpc] at hT1 ⊢
  have HB := Lib.hid (show pc < B ∧ pb < B ∧ pc ≠ pb ∧ w.heap.size ≤ pc ∧ w.heap.size ≤ B ∧ w.heap.size ≤ pb ∧ B ≤ W1.heap.size by omega)
  have HS1 : Hid (NwS pc pb B w W1 ten nilV nilV nilV) := Lib.hid ⟨hT1, hR1, hx1, by omega⟩
  have HTN := Lib.hid hten
  clear hW1 hx1 hT1 hR1 hs1 hpc hpb hB hten
  go_loopw [6] (fun k wr => ∃ (i : Nat) (xl : Value), k = .int .i64 i ∧ i ≤ ls.length ∧ NwS pc pb B w wr ten xl nilV nilV ∧ wr.ownsRow B 3 1 xl (lotsW (ls.take i)).length ((lotsW (ls.take i)).flatMap celI)) (fun k _ => ls.length - (iof k).toNat)
  case atStart => exact ⟨0, nilV, rfl, Nat.zero_le _, HS1.out, World.ownsRow_nil _ _ _ _⟩
  case round =>
    obtain ⟨i, xl, rfl, hi, hS, hrow⟩ := hrel
    obtain ⟨hok, hlw⟩ := lotsW_ok (ls := ls.take i) (fun l hl => HLO.out l (List.mem_of_mem_take hl))
    rw [List.length_take] at hlw
    have hird := ird_row hrow hok (by omega)
    obtain ⟨xb, xc, rfl⟩ := (SR.of_row (cs := celI) (fun _ => rfl) hrow (by omega)).form
    have HS := Lib.hid hS; have HROW := Lib.hid hrow; have HIR := Lib.hid hird; have HLW := Lib.hid hlw
    obtain ⟨u0, -, -, ul, -⟩ := bcells hS.2.1
    have hTc := hS.1
    rw [HTN.out] at hTc
    obtain ⟨t1, -, tl, -⟩ := tcells hTc
    clear hS hrow hird hlw hok hTc
    by_cases hil : i < ls.length
    · obtain ⟨b, rfl, hcell⟩ := row_at (HL.out.ext HS.out.2.2.1) i hil
      have q0 := hcell 0 _ rfl
      have hbr := World.block_lt_of_cell? wr _ q0
      have HSTEP := Lib.hid (foldl_take_succ lotS [] ls i hil)
      have hCO := fun wz (hz : Ext wr wz) => contains_any _ _ ls[i].id wz (HIR.out.ext hz)
      have HF : Hid (lotsW (ls.take (i + 1)) = lotS (lotsW (ls.take i)) ls[i]) := Lib.hid HSTEP.out
      have HID : Hid (OkI ls[i].id) := Lib.hid (HLO.out _ (List.getElem_mem _))
      clear HSTEP hcell
      generalize ls[i] = y at *
      obtain ⟨yi, ym⟩ := y
      generalize lotsW (ls.take i) = L at *
      simp only [Nat.add_zero, lotS] at q0 hCO HF HID
      go_upto_region 5 with (fail)
      refine Rr.wp_region ((List.range 11).map (fun i => (i, .y))) (fun _ => (.cells #[] 29, Rg.ptr)) (by kernel_rfl) (by kernel_rfl) ?_
      simp only [List.range, List.range.loop, List.map_cons, List.map_nil]
      (refine Rr.wr_y (by simp only [List.getElem?_toArray, List.getElem?_cons_succ, List.getElem?_cons_zero]; rfl) (by rfl) ?_
       apply Exists.intro
       refine ⟨fun wz hw _ => ?_, ?_⟩
       · have hcz := hw.cells.1
         go_simp
         (with_reducible exact Rg.up_value)
       simp only [Act.put, List.setIfInBounds_toArray, List.set_cons_zero, List.set_cons_succ])
      (refine Rr.wr_y (by simp only [List.getElem?_toArray, List.getElem?_cons_succ, List.getElem?_cons_zero]; rfl) (by rfl) ?_
       apply Exists.intro
       refine ⟨fun wz hw _ => ?_, ?_⟩
       · have hcz := hw.cells.1
         go_simp
         (with_reducible exact Rg.up_value)
       simp only [Act.put, List.setIfInBounds_toArray, List.set_cons_zero, List.set_cons_succ])
      (refine Rr.wr_y (by simp only [List.getElem?_toArray, List.getElem?_cons_succ, List.getElem?_cons_zero]; rfl) (by rfl) ?_
       apply Exists.intro
       refine ⟨fun wz hw _ => ?_, ?_⟩
       · have hcz := hw.cells.1
         go_simp
         (with_reducible exact Rg.up_value)
       simp only [Act.put, List.setIfInBounds_toArray, List.set_cons_zero, List.set_cons_succ])
      (refine Rr.wr_y (by simp only [List.getElem?_toArray, List.getElem?_cons_succ, List.getElem?_cons_zero]; rfl) (by rfl) ?_
       apply Exists.intro
       refine ⟨fun wz hw _ => ?_, ?_⟩
       · have hcz := hw.cells.1
         go_simp
         (with_reducible exact Rg.up_value)
       simp only [Act.put, List.setIfInBounds_toArray, List.set_cons_zero, List.set_cons_succ])
      (refine Rr.wr_y (by simp only [List.getElem?_toArray, List.getElem?_cons_succ, List.getElem?_cons_zero]; rfl) (by rfl) ?_
       apply Exists.intro
       refine ⟨fun wz hw _ => ?_, ?_⟩
       · have hcz := hw.cells.1
         go_simp
         (with_reducible exact Rg.up_value)
       simp only [Act.put, List.setIfInBounds_toArray, List.set_cons_zero, List.set_cons_succ])
      (refine Rr.wr_y (by simp only [List.getElem?_toArray, List.getElem?_cons_succ, List.getElem?_cons_zero]; rfl) (by rfl) ?_
       apply Exists.intro
       refine ⟨fun wz hw _ => ?_, ?_⟩
       · have hcz := hw.cells.1
         go_simp
         (with_reducible exact Rg.up_value)
       simp only [Act.put, List.setIfInBounds_toArray, List.set_cons_zero, List.set_cons_succ])
      (refine Rr.wr_y (by simp only [List.getElem?_toArray, List.getElem?_cons_succ, List.getElem?_cons_zero]; rfl) (by rfl) ?_
       apply Exists.intro
       refine ⟨fun wz hw _ => ?_, ?_⟩
       · have hcz := hw.cells.1
         go_simp
         (with_reducible exact Rg.up_value)
       simp only [Act.put, List.setIfInBounds_toArray, List.set_cons_zero, List.set_cons_succ])
      (refine Rr.wr_y (by simp only [List.getElem?_toArray, List.getElem?_cons_succ, List.getElem?_cons_zero]; rfl) (by rfl) ?_
       apply Exists.intro
       refine ⟨fun wz hw _ => ?_, ?_⟩
       · have hcz := hw.cells.1
         go_simp
         (with_reducible exact Rg.up_value)
       simp only [Act.put, List.setIfInBounds_toArray, List.set_cons_zero, List.set_cons_succ])
      (refine Rr.wr_y (by simp only [List.getElem?_toArray, List.getElem?_cons_succ, List.getElem?_cons_zero]; rfl) (by rfl) ?_
       apply Exists.intro
       refine ⟨fun wz hw _ => ?_, ?_⟩
       · have hcz := hw.cells.1
         go_simp
         (with_reducible exact Rg.up_value)
       simp only [Act.put, List.setIfInBounds_toArray, List.set_cons_zero, List.set_cons_succ])
      (refine Rr.wr_y (by simp only [List.getElem?_toArray, List.getElem?_cons_succ, List.getElem?_cons_zero]; rfl) (by rfl) ?_
       apply Exists.intro
       refine ⟨fun wz hw _ => ?_, ?_⟩
       · have hcz := hw.cells.1
         go_simp
         (with_reducible exact Rg.up_value)
       simp only [Act.put, List.setIfInBounds_toArray, List.set_cons_zero, List.set_cons_succ])
      (refine Rr.wr_y (by simp only [List.getElem?_toArray, List.getElem?_cons_succ, List.getElem?_cons_zero]; rfl) (by rfl) ?_
       apply Exists.intro
       refine ⟨fun wz hw _ => ?_, ?_⟩
       · have hcz := hw.cells.1
         go_simp
         apply Rg.up_enter
         (with_reducible refine (hCO wz hw).mono ?_)
         rintro e w3 ⟨rfl, hb3⟩
         exact ⟨rfl, hb3⟩
       simp only [Act.put, List.setIfInBounds_toArray, List.set_cons_zero, List.set_cons_succ])
      refine Rr.wr_nil ?_
      intro wy hy hh
      simp only [List.length_cons, List.length_nil, List.drop_succ_cons, List.drop_zero, Nat.reduceAdd]
      clear hh
      have HS2 := Lib.hid (HS.out.ext hy); have HR2 := Lib.hid (row_ext HROW.out hy)
      have q0' := (hy.cells.1 _ _ hbr).trans q0
      have hbr2 := Nat.lt_of_lt_of_le hbr hy.size
      clear q0 hbr u0 ul t1 tl HS HROW HIR hCO
      obtain ⟨u0, -, -, ul, -⟩ := bcells HS2.out.2.1
      have hTc := HS2.out.1
      rw [HTN.out] at hTc
      obtain ⟨t1, -, tl, -⟩ := tcells hTc
      clear hTc
      by_cases hin : yi ∈ L
      · have HF2 : Hid (lotsW (ls.take (i + 1)) = L) := Lib.hid (by rw [HF.out, if_pos hin])
        have hdt : decide (yi ∈ L) = true := decide_eq_true hin
        rw [hdt]
        clear hdt hin
        go_wp2_with (fail)
        exact ⟨⟨i + 1, _, by simp, by omega, HS2.out, by rw [HF2.out]; exact HR2.out⟩, by simp [iof]; omega⟩
      · have HF2 : Hid (lotsW (ls.take (i + 1)) = L ++ [yi]) := Lib.hid (by rw [HF.out, if_neg hin])
        have hdt : decide (yi ∈ L) = false := decide_eq_false hin
        rw [hdt]
        clear hdt hin
        go_upto_region 7 with (fail)
        refine Rp.wp_regionTE [0] [(0, .y), (1, .y), (2, .y), (3, .y), (4, .y), (5, .y), (6, .y), (7, .y), (8, .y), (9, .y), (10, .y), (11, .m)] [12, 13, 14, 15] (fun _ => (.cells #[.int .i64 yi] 3, fun p => .slice (some ⟨p, 0, none⟩) 1 1)) (fun c a d v w h => by have h' : _ ∧ _ := h; exact ⟨(Rr.put_defers a d v).symm.trans h'.1, h'.2⟩) (by kernel_rfl) (by kernel_rfl) ?_
        (refine Rr.wr_y (by simp only [List.getElem?_toArray, List.getElem?_cons_succ, List.getElem?_cons_zero]; rfl) (by rfl) ?_
         apply Exists.intro
         refine ⟨fun wz hw _ => ?_, ?_⟩
         · have hcz := hw.cells.1
           go_simp
           (with_reducible exact Rg.up_value)
         simp only [Act.put, List.setIfInBounds_toArray, List.set_cons_zero, List.set_cons_succ])
        (refine Rr.wr_y (by simp only [List.getElem?_toArray, List.getElem?_cons_succ, List.getElem?_cons_zero]; rfl) (by rfl) ?_
         apply Exists.intro
         refine ⟨fun wz hw _ => ?_, ?_⟩
         · have hcz := hw.cells.1
           go_simp
           (with_reducible exact Rg.up_value)
         simp only [Act.put, List.setIfInBounds_toArray, List.set_cons_zero, List.set_cons_succ])
        (refine Rr.wr_y (by simp only [List.getElem?_toArray, List.getElem?_cons_succ, List.getElem?_cons_zero]; rfl) (by rfl) ?_
         apply Exists.intro
         refine ⟨fun wz hw _ => ?_, ?_⟩
         · have hcz := hw.cells.1
           go_simp
           (with_reducible exact Rg.up_value)
         simp only [Act.put, List.setIfInBounds_toArray, List.set_cons_zero, List.set_cons_succ])
        (refine Rr.wr_y (by simp only [List.getElem?_toArray, List.getElem?_cons_succ, List.getElem?_cons_zero]; rfl) (by rfl) ?_
         apply Exists.intro
         refine ⟨fun wz hw _ => ?_, ?_⟩
         · have hcz := hw.cells.1
           go_simp
           (with_reducible exact Rg.up_value)
         simp only [Act.put, List.setIfInBounds_toArray, List.set_cons_zero, List.set_cons_succ])
        (refine Rr.wr_y (by simp only [List.getElem?_toArray, List.getElem?_cons_succ, List.getElem?_cons_zero]; rfl) (by rfl) ?_
         apply Exists.intro
         refine ⟨fun wz hw _ => ?_, ?_⟩
         · have hcz := hw.cells.1
           go_simp
           (with_reducible exact Rg.up_value)
         simp only [Act.put, List.setIfInBounds_toArray, List.set_cons_zero, List.set_cons_succ])
        (refine Rr.wr_y (by simp only [List.getElem?_toArray, List.getElem?_cons_succ, List.getElem?_cons_zero]; rfl) (by rfl) ?_
         apply Exists.intro
         refine ⟨fun wz hw _ => ?_, ?_⟩
         · have hcz := hw.cells.1
           go_simp
           (with_reducible exact Rg.up_value)
         simp only [Act.put, List.setIfInBounds_toArray, List.set_cons_zero, List.set_cons_succ])
        (refine Rr.wr_y (by simp only [List.getElem?_toArray, List.getElem?_cons_succ, List.getElem?_cons_zero]; rfl) (by rfl) ?_
         apply Exists.intro
         refine ⟨fun wz hw _ => ?_, ?_⟩
         · have hcz := hw.cells.1
           go_simp
           (with_reducible exact Rg.up_value)
         simp only [Act.put, List.setIfInBounds_toArray, List.set_cons_zero, List.set_cons_succ])
        (refine Rr.wr_y (by simp only [List.getElem?_toArray, List.getElem?_cons_succ, List.getElem?_cons_zero]; rfl) (by rfl) ?_
         apply Exists.intro
         refine ⟨fun wz hw _ => ?_, ?_⟩
         · have hcz := hw.cells.1
           go_simp
           (with_reducible exact Rg.up_value)
         simp only [Act.put, List.setIfInBounds_toArray, List.set_cons_zero, List.set_cons_succ])
        (refine Rr.wr_y (by simp only [List.getElem?_toArray, List.getElem?_cons_succ, List.getElem?_cons_zero]; rfl) (by rfl) ?_
         apply Exists.intro
         refine ⟨fun wz hw _ => ?_, ?_⟩
         · have hcz := hw.cells.1
           go_simp
           (with_reducible exact Rg.up_value)
         simp only [Act.put, List.setIfInBounds_toArray, List.set_cons_zero, List.set_cons_succ])
        (refine Rr.wr_y (by simp only [List.getElem?_toArray, List.getElem?_cons_succ, List.getElem?_cons_zero]; rfl) (by rfl) ?_
         apply Exists.intro
         refine ⟨fun wz hw _ => ?_, ?_⟩
         · have hcz := hw.cells.1
           go_simp
           (with_reducible exact Rg.up_value)
         simp only [Act.put, List.setIfInBounds_toArray, List.set_cons_zero, List.set_cons_succ])
        (refine Rr.wr_y (by simp only [List.getElem?_toArray, List.getElem?_cons_succ, List.getElem?_cons_zero]; rfl) (by rfl) ?_
         apply Exists.intro
         refine ⟨fun wz hw _ => ?_, ?_⟩
         · have hcz := hw.cells.1
           go_simp
           (with_reducible exact Rg.up_value)
         simp only [Act.put, List.setIfInBounds_toArray, List.set_cons_zero, List.set_cons_succ])
        refine Rr.wr_m (by simp only [List.getElem?_toArray, List.getElem?_cons_succ, List.getElem?_cons_zero]; rfl) (by rfl) (fun wz => by go_simp) (fun p hp => ?_)
        simp only [Act.put, List.setIfInBounds_toArray, List.set_cons_zero, List.set_cons_succ]
        refine Rr.wr_nil ?_
        intro wy6 hy6 hh6
        obtain ⟨-, hb2⟩ := hh6 _ List.mem_cons_self
        simp only [List.filterMap_cons, List.filterMap_nil, List.getElem?_cons_succ, List.getElem?_cons_zero]
        have HP := Lib.hid hb2; have HY := Lib.hid hy6
        clear hh6 hb2 hy6
        refine append_g (cs := celI) (z := .int .i64 0) 60 3 8 Tryz.underlying60 (by kernel_rfl) (by rfl) (by decide) (by decide) rfl (.tmp 39) (.tmp 46) rfl B (.slice xb L.length xc) L (by rfl) (row_ext HR2.out HY.out) p yi (celI_len _) (by rfl) HP.out (by have := HLW.out; omega) (by have := HY.out.size; have := HS2.out.2.2.2; omega) ?_
        intro g cap w6 hr6 hg6 hat6
        have HS6 := Lib.hid ((HS2.out.ext HY.out).gro (row_ext HR2.out HY.out) hg6 HB.out.1 HB.out.2.1 HB.out.2.2.2.2.1)
        have HR6 := Lib.hid hr6
        clear hr6 hg6 hat6 u0 ul t1 tl q0' hbr2
        obtain ⟨v0, -, -, vl, vf⟩ := bcells HS6.out.2.1
        have vf0 := vf 0
        clear vf
        go_wp2_with (fail)
        refine ⟨⟨i + 1, .slice (some ⟨g, 0, none⟩) (L.length + 1) cap, by simp, by omega, ⟨?_, heap_setCell_same w6 pb 0 _ 80 _ HS6.out.2.1, ?_, ?_⟩, ?_⟩, by simp [iof]; omega⟩
        · exact (heap_setCell_other w6 _ pc _ (by have := HB.out; show pc ≠ pb; omega)).trans HS6.out.1
        · exact Below.setCell HS6.out.2.2.1 (by have := HB.out; show _ ≤ pb; omega) _
        · rw [World.size_setCell]; exact HS6.out.2.2.2
        · rw [HF2.out]
          exact row_set HR6.out HB.out.2.1 0 _
    · obtain rfl : i = ls.length := by omega
      rw [List.take_length] at HROW HS u0
      obtain ⟨vl, hvl⟩ : ∃ vl, vl = Value.slice xb (lotsW ls).length xc := ⟨_, rfl⟩
      rw [← hvl] at HS HROW u0
      clear hvl
      have HS3 := Lib.hid HS.out
      have HL3 := Lib.hid HROW.out
      clear u0 ul HS HROW HIR HLW HS1
      go_upto_region 9 with (fail)
      clear t1 tl
      obtain ⟨W3, hW3⟩ : ∃ W3, W3 = wr := ⟨_, rfl⟩
      subst hW3
      go_loopw [8] (fun k wr => ∃ (i : Nat) (xv : Value), k = .int .i64 i ∧ i ≤ cs.length ∧ NwS pc pb B w wr ten vl xv nilV ∧ wr.ownsRow B 3 1 vl (lotsW ls).length ((lotsW ls).flatMap celI) ∧ wr.ownsRow B 73 5 xv (crisW (cs.take i)).length ((crisW (cs.take i)).flatMap Cr.cs)) (fun k _ => cs.length - (iof k).toNat)
      case atStart => exact ⟨0, nilV, rfl, Nat.zero_le _, HS3.out, HL3.out, World.ownsRow_nil _ _ _ _⟩
      case round =>
        obtain ⟨i, xv, rfl, hi, hS, hrl, hrow⟩ := hrel
        have hlw : (crisW (cs.take i)).length ≤ i := by
          have := (fold_ok (f := criS) (g := id) (p := fun _ => True) (cs.take i) (fun acc a => by unfold criS; split; exact .inr rfl; exact .inl rfl) (fun _ _ => trivial)).2
          rw [List.length_take] at this
          unfold crisW
          omega
        have hsr := SR.of_row (cs := Cr.cs) (fun _ => rfl) hrow (by omega)
        obtain ⟨xb, xc, rfl⟩ := hsr.form
        have HS := Lib.hid hS; have HROW := Lib.hid hrow; have HRL := Lib.hid hrl; have HSR := Lib.hid hsr; have HLW := Lib.hid hlw
        obtain ⟨-, u1, -, ul, -⟩ := bcells hS.2.1
        have hTc := hS.1
        rw [HTN.out] at hTc
        obtain ⟨-, t2, tl, -⟩ := tcells hTc
        clear hS hrow hrl hsr hlw hTc
        by_cases hil : i < cs.length
        · obtain ⟨b, rfl, hcell⟩ := row_at (HC.out.ext HS.out.2.2.1) i hil
          have q0 := hcell 0 _ rfl
          have q1 := hcell 1 _ rfl
          have q2 := hcell 2 _ rfl
          have q3 := hcell 3 _ rfl
          have q4 := hcell 4 _ rfl
          have hbr := World.block_lt_of_cell? wr _ q0
          have HF : Hid (crisW (cs.take (i + 1)) = criS (crisW (cs.take i)) cs[i]) := Lib.hid (foldl_take_succ criS [] cs i hil)
          clear hcell
          generalize cs[i] = y at *
          obtain ⟨yn, yk, yl, yh, yb⟩ := y
          generalize crisW (cs.take i) = C at *
          simp only [Nat.add_zero, criS] at q0 q1 q2 q3 q4 HF
          obtain ⟨o, th, ho, hth, hto⟩ : ∃ (o : Cr) (th : Bool), (critOf C yn).getD zeroCr = o ∧ (critOf C yn).isSome = th ∧ (C.any fun x => decide (x.name = yn)) = th := by
            refine ⟨_, _, rfl, rfl, ?_⟩
            unfold critOf
            rw [Bool.eq_iff_iff, List.any_eq_true, List.find?_isSome]
          obtain ⟨on, ok, ol, oh, ob⟩ := o
          have HCR : Hid (Calls Tryz.prog 40 #[.pointer (some ⟨pb, 0, none⟩), .string yn] wr fun e w' => e = .returned (.tuple #[.agg #[.string on, .int .i64 ok, .int .i64 ol, .int .i64 oh, .bool ob], .bool th]) ∧ Ext wr w') := Lib.hid (by
            have := criterion_any pb _ _ _ _ _ _ C yn wr HS.out.2.1 HSR.out
            rw [ho, hth] at this
            exact this)
          rw [hto] at HF
          clear ho hth hto HSR
          go_upto_region 12 with (go_at_call 40; (with_reducible refine HCR.out.mono ?_); rintro e w5 ⟨rfl, hx5⟩)
          have hxa : Ext wr (w5.alloc (.cells #[.string on, .int .i64 ok, .int .i64 ol, .int .i64 oh, .bool ob] 73)) := Ext.alloc hx5 _
          generalize w5.alloc (.cells #[.string on, .int .i64 ok, .int .i64 ol, .int .i64 oh, .bool ob] 73) = w6 at *
          have HS6 := Lib.hid (HS.out.ext hxa); have HR6 := Lib.hid (row_ext HROW.out hxa); have HL6 := Lib.hid (row_ext HRL.out hxa)
          have p0 := (hxa.cells.1 _ _ hbr).trans q0
          have p1 := (hxa.cells.1 _ _ hbr).trans q1
          have p2 := (hxa.cells.1 _ _ hbr).trans q2
          have p3 := (hxa.cells.1 _ _ hbr).trans q3
          have p4 := (hxa.cells.1 _ _ hbr).trans q4
          have pl := Nat.lt_of_lt_of_le hbr hxa.size
          clear q0 q1 q2 q3 q4 hbr hx5 hxa HCR HS HROW HRL u1 ul t2 tl
          obtain ⟨-, u1, -, ul, -⟩ := bcells HS6.out.2.1
          have hTc := HS6.out.1
          rw [HTN.out] at hTc
          obtain ⟨-, t2, tl, -⟩ := tcells hTc
          clear hTc
          by_cases hk : yk = 1
          · cases th with
            | true =>
              have HF2 : Hid (crisW (cs.take (i + 1)) = C) := Lib.hid (by rw [HF.out, if_neg (fun h => h.2 rfl)])
              go_wp2_with (fail)
              exact ⟨⟨i + 1, _, by simp, by omega, HS6.out, HL6.out, by rw [HF2.out]; exact HR6.out⟩, by simp [iof]; omega⟩
            | false =>
              have HF2 : Hid (crisW (cs.take (i + 1)) = C ++ [⟨yn, yk, yl, yh, yb⟩]) := Lib.hid (by rw [HF.out, if_pos ⟨hk, by decide⟩])
              go_upto_region 13 with (fail)
              refine Rp.wp_regionTE [0] [(0, .y), (1, .y), (2, .y), (3, .y), (4, .y), (5, .y), (6, .y), (7, .y), (8, .y), (9, .y), (10, .m)] [11, 12, 13, 14] (fun _ => (.cells #[.string yn, .int .i64 yk, .int .i64 yl, .int .i64 yh, .bool yb] 73, fun p => .slice (some ⟨p, 0, none⟩) 1 1)) (fun c a d v w h => by have h' : _ ∧ _ := h; exact ⟨(Rr.put_defers a d v).symm.trans h'.1, h'.2⟩) (by kernel_rfl) (by kernel_rfl) ?_
              (refine Rr.wr_y (by simp only [List.getElem?_toArray, List.getElem?_cons_succ, List.getElem?_cons_zero]; rfl) (by rfl) ?_
               apply Exists.intro
               refine ⟨fun wz hw _ => ?_, ?_⟩
               · have hcz := hw.cells.1
                 go_simp
                 (with_reducible exact Rg.up_value)
               simp only [Act.put, List.setIfInBounds_toArray, List.set_cons_zero, List.set_cons_succ])
              (refine Rr.wr_y (by simp only [List.getElem?_toArray, List.getElem?_cons_succ, List.getElem?_cons_zero]; rfl) (by rfl) ?_
               apply Exists.intro
               refine ⟨fun wz hw _ => ?_, ?_⟩
               · have hcz := hw.cells.1
                 go_simp
                 (with_reducible exact Rg.up_value)
               simp only [Act.put, List.setIfInBounds_toArray, List.set_cons_zero, List.set_cons_succ])
              (refine Rr.wr_y (by simp only [List.getElem?_toArray, List.getElem?_cons_succ, List.getElem?_cons_zero]; rfl) (by rfl) ?_
               apply Exists.intro
               refine ⟨fun wz hw _ => ?_, ?_⟩
               · have hcz := hw.cells.1
                 go_simp
                 (with_reducible exact Rg.up_value)
               simp only [Act.put, List.setIfInBounds_toArray, List.set_cons_zero, List.set_cons_succ])
              (refine Rr.wr_y (by simp only [List.getElem?_toArray, List.getElem?_cons_succ, List.getElem?_cons_zero]; rfl) (by rfl) ?_
               apply Exists.intro
               refine ⟨fun wz hw _ => ?_, ?_⟩
               · have hcz := hw.cells.1
                 go_simp
                 (with_reducible exact Rg.up_value)
               simp only [Act.put, List.setIfInBounds_toArray, List.set_cons_zero, List.set_cons_succ])
              (refine Rr.wr_y (by simp only [List.getElem?_toArray, List.getElem?_cons_succ, List.getElem?_cons_zero]; rfl) (by rfl) ?_
               apply Exists.intro
               refine ⟨fun wz hw _ => ?_, ?_⟩
               · have hcz := hw.cells.1
                 go_simp
                 (with_reducible exact Rg.up_value)
               simp only [Act.put, List.setIfInBounds_toArray, List.set_cons_zero, List.set_cons_succ])
              (refine Rr.wr_y (by simp only [List.getElem?_toArray, List.getElem?_cons_succ, List.getElem?_cons_zero]; rfl) (by rfl) ?_
               apply Exists.intro
               refine ⟨fun wz hw _ => ?_, ?_⟩
               · have hcz := hw.cells.1
                 go_simp
                 (with_reducible exact Rg.up_value)
               simp only [Act.put, List.setIfInBounds_toArray, List.set_cons_zero, List.set_cons_succ])
              (refine Rr.wr_y (by simp only [List.getElem?_toArray, List.getElem?_cons_succ, List.getElem?_cons_zero]; rfl) (by rfl) ?_
               apply Exists.intro
               refine ⟨fun wz hw _ => ?_, ?_⟩
               · have hcz := hw.cells.1
                 go_simp
                 (with_reducible exact Rg.up_value)
               simp only [Act.put, List.setIfInBounds_toArray, List.set_cons_zero, List.set_cons_succ])
              (refine Rr.wr_y (by simp only [List.getElem?_toArray, List.getElem?_cons_succ, List.getElem?_cons_zero]; rfl) (by rfl) ?_
               apply Exists.intro
               refine ⟨fun wz hw _ => ?_, ?_⟩
               · have hcz := hw.cells.1
                 go_simp
                 (with_reducible exact Rg.up_value)
               simp only [Act.put, List.setIfInBounds_toArray, List.set_cons_zero, List.set_cons_succ])
              (refine Rr.wr_y (by simp only [List.getElem?_toArray, List.getElem?_cons_succ, List.getElem?_cons_zero]; rfl) (by rfl) ?_
               apply Exists.intro
               refine ⟨fun wz hw _ => ?_, ?_⟩
               · have hcz := hw.cells.1
                 go_simp
                 (with_reducible exact Rg.up_value)
               simp only [Act.put, List.setIfInBounds_toArray, List.set_cons_zero, List.set_cons_succ])
              (refine Rr.wr_y (by simp only [List.getElem?_toArray, List.getElem?_cons_succ, List.getElem?_cons_zero]; rfl) (by rfl) ?_
               apply Exists.intro
               refine ⟨fun wz hw _ => ?_, ?_⟩
               · have hcz := hw.cells.1
                 exact up_load71 (by rfl) ((hcz _ _ pl).trans p0) ((hcz _ _ pl).trans p1) ((hcz _ _ pl).trans p2) ((hcz _ _ pl).trans p3) ((hcz _ _ pl).trans p4)
               simp only [Act.put, List.setIfInBounds_toArray, List.set_cons_zero, List.set_cons_succ])
              refine Rr.wr_m (by simp only [List.getElem?_toArray, List.getElem?_cons_succ, List.getElem?_cons_zero]; rfl) (by rfl) (fun wz => by go_simp) (fun p hp => ?_)
              simp only [Act.put, List.setIfInBounds_toArray, List.set_cons_zero, List.set_cons_succ]
              refine Rr.wr_nil ?_
              intro wy6 hy6 hh6
              obtain ⟨-, hb2⟩ := hh6 _ List.mem_cons_self
              simp only [List.filterMap_cons, List.filterMap_nil, List.getElem?_cons_succ, List.getElem?_cons_zero]
              have HP := Lib.hid hb2; have HY := Lib.hid hy6
              clear hh6 hb2 hy6
              refine append_g (cs := Cr.cs) (z := .agg #[.string ⟨#[]⟩, .int .i64 0, .int .i64 0, .int .i64 0, .bool false]) 43 73 48 Tryz.underlying43 (by kernel_rfl) (by rfl) (by decide) (by decide) rfl (.tmp 83) (.tmp 89) rfl B (.slice xb C.length xc) C (by rfl) (row_ext HR6.out HY.out) p ⟨yn, yk, yl, yh, yb⟩ ⟨rfl, by simp [Cr.cs, Value.oneCell']⟩ (by rfl) HP.out (by have := HLW.out; omega) (by have := HY.out.size; have := HS6.out.2.2.2; omega) ?_
              intro g cap w7 hr7 hg7 hat7
              have HS7 := Lib.hid ((HS6.out.ext HY.out).gro (row_ext HR6.out HY.out) hg7 HB.out.1 HB.out.2.1 HB.out.2.2.2.2.1)
              have HR7 := Lib.hid hr7
              have HL7 := Lib.hid (row_grown (row_ext HL6.out HY.out) (row_ext HR6.out HY.out) (by decide) hg7)
              clear hr7 hg7 hat7 u1 ul t2 tl p0 p1 p2 p3 p4 pl
              obtain ⟨-, v0, -, vll, vf⟩ := bcells HS7.out.2.1
              have vf0 := vf 1
              clear vf
              go_wp2_with (fail)
              refine ⟨⟨i + 1, .slice (some ⟨g, 0, none⟩) (C.length + 1) cap, by simp, by omega, ⟨?_, heap_setCell_same w7 pb 1 _ 80 _ HS7.out.2.1, ?_, ?_⟩, row_set HL7.out HB.out.2.1 1 _, ?_⟩, by simp [iof]; omega⟩
              · exact (heap_setCell_other w7 _ pc _ (by have := HB.out; show pc ≠ pb; omega)).trans HS7.out.1
              · exact Below.setCell HS7.out.2.2.1 (by have := HB.out; show _ ≤ pb; omega) _
              · rw [World.size_setCell]; exact HS7.out.2.2.2
              · rw [HF2.out]
                exact row_set HR7.out HB.out.2.1 1 _
          · have HF2 : Hid (crisW (cs.take (i + 1)) = C) := Lib.hid (by rw [HF.out, if_neg (fun h => hk h.1)])
            go_wp2_with (fail)
            exact ⟨⟨i + 1, _, by simp, by omega, HS6.out, HL6.out, by rw [HF2.out]; exact HR6.out⟩, by simp [iof]; omega⟩
        · obtain rfl : i = cs.length := by omega
          rw [List.take_length] at HROW HS u1
          obtain ⟨vc, hvc⟩ : ∃ vc, vc = Value.slice xb (crisW cs).length xc := ⟨_, rfl⟩
          rw [← hvc] at HS HROW u1
          clear hvc
          have HS4 := Lib.hid HS.out
          have HK4 := Lib.hid HROW.out
          have HL4 := Lib.hid HRL.out
          clear u1 ul HS HROW HRL HSR HLW HS3 HL3
          go_upto_region 15 with (fail)
          clear t2 tl
          obtain ⟨W4, hW4⟩ : ∃ W4, W4 = wr := ⟨_, rfl⟩
          subst hW4
          go_loopw [11] (fun k wr => ∃ (i : Nat) (xv : Value), k = .int .i64 i ∧ i ≤ ds.length ∧ NwS pc pb B w wr ten vl vc xv ∧ wr.ownsRow B 3 1 vl (lotsW ls).length ((lotsW ls).flatMap celI) ∧ wr.ownsRow B 73 5 vc (crisW cs).length ((crisW cs).flatMap Cr.cs) ∧ wr.ownsRow B 57 2 xv (dutsW (ds.take i)).length ((dutsW (ds.take i)).flatMap Dy.cs)) (fun k _ => ds.length - (iof k).toNat)
          case atStart => exact ⟨0, nilV, rfl, Nat.zero_le _, HS4.out, HL4.out, HK4.out, World.ownsRow_nil _ _ _ _⟩
          case round =>
            obtain ⟨i, xv, rfl, hi, hS, hrl, hrk, hrow⟩ := hrel
            have hlw : (dutsW (ds.take i)).length ≤ i := by
              have := (fold_ok (f := dutS) (g := id) (p := fun _ => True) (ds.take i) (fun acc a => by unfold dutS; split; exact .inl rfl; exact .inr rfl) (fun _ _ => trivial)).2
              rw [List.length_take] at this
              unfold dutsW
              omega
            have hsr := SR.of_row (cs := Dy.cs) (fun _ => rfl) hrow (by omega)
            obtain ⟨xb, xc, rfl⟩ := hsr.form
            have HS := Lib.hid hS; have HROW := Lib.hid hrow; have HRL := Lib.hid hrl; have HRK := Lib.hid hrk; have HSR := Lib.hid hsr; have HLW := Lib.hid hlw
            obtain ⟨-, -, u2, ul, -⟩ := bcells hS.2.1
            clear hS hrow hrl hrk hsr hlw
            by_cases hil : i < ds.length
            · obtain ⟨b, rfl, hcell⟩ := row_at (HD.out.ext HS.out.2.2.1) i hil
              have q0 := hcell 0 _ rfl
              have q1 := hcell 1 _ rfl
              have hbr := World.block_lt_of_cell? wr _ q0
              have HF : Hid (dutsW (ds.take (i + 1)) = dutS (dutsW (ds.take i)) ds[i]) := Lib.hid (foldl_take_succ dutS [] ds i hil)
              clear hcell
              generalize ds[i] = y at *
              obtain ⟨ya, yb⟩ := y
              generalize dutsW (ds.take i) = D at *
              simp only [Nat.add_zero, dutS] at q0 q1 HF
              have HDU := Lib.hid (duty_any pb _ _ _ _ _ _ D ⟨ya, yb⟩ wr HS.out.2.1 HSR.out)
              simp only [encD] at HDU
              clear HSR
              by_cases hin : (⟨ya, yb⟩ : Dy) ∈ D
              · have HF2 : Hid (dutsW (ds.take (i + 1)) = D) := Lib.hid (by rw [HF.out, if_pos hin])
                rw [decide_eq_true hin] at HDU
                clear hin
                go_upto_region 18 with (go_at_call 41; (with_reducible refine HDU.out.mono ?_); rintro e w5 ⟨rfl, hx5⟩)
                have HS6 := Lib.hid (HS.out.ext hx5); have HR6 := Lib.hid (row_ext HROW.out hx5); have HL6 := Lib.hid (row_ext HRL.out hx5); have HK6 := Lib.hid (row_ext HRK.out hx5)
                go_wp2_with (fail)
                exact ⟨⟨i + 1, _, by simp, by omega, HS6.out, HL6.out, HK6.out, by rw [HF2.out]; exact HR6.out⟩, by simp [iof]; omega⟩
              · have HF2 : Hid (dutsW (ds.take (i + 1)) = D ++ [⟨ya, yb⟩]) := Lib.hid (by rw [HF.out, if_neg hin])
                rw [decide_eq_false hin] at HDU
                clear hin
                go_upto_region 18 with (go_at_call 41; (with_reducible refine HDU.out.mono ?_); rintro e w5 ⟨rfl, hx5⟩)
                have HS6 := Lib.hid (HS.out.ext hx5); have HR6 := Lib.hid (row_ext HROW.out hx5); have HL6 := Lib.hid (row_ext HRL.out hx5); have HK6 := Lib.hid (row_ext HRK.out hx5)
                have p0 := (hx5.cells.1 _ _ hbr).trans q0
                have p1 := (hx5.cells.1 _ _ hbr).trans q1
                have pl := Nat.lt_of_lt_of_le hbr hx5.size
                clear q0 q1 hbr hx5 HDU HS HROW HRL HRK u2 ul
                obtain ⟨-, -, u2, ul, -⟩ := bcells HS6.out.2.1
                go_upto_region 19 with (fail)
                refine Rp.wp_regionTE [0] [(0, .y), (1, .y), (2, .y), (3, .y), (4, .y), (5, .y), (6, .y), (7, .y), (8, .y), (9, .m)] [10, 11, 12, 13] (fun _ => (.cells #[.int .i64 ya, .int .i64 yb] 57, fun p => .slice (some ⟨p, 0, none⟩) 1 1)) (fun c a d v w h => by have h' : _ ∧ _ := h; exact ⟨(Rr.put_defers a d v).symm.trans h'.1, h'.2⟩) (by kernel_rfl) (by kernel_rfl) ?_
                (refine Rr.wr_y (by simp only [List.getElem?_toArray, List.getElem?_cons_succ, List.getElem?_cons_zero]; rfl) (by rfl) ?_
                 apply Exists.intro
                 refine ⟨fun wz hw _ => ?_, ?_⟩
                 · have hcz := hw.cells.1
                   go_simp
                   (with_reducible exact Rg.up_value)
                 simp only [Act.put, List.setIfInBounds_toArray, List.set_cons_zero, List.set_cons_succ])
                (refine Rr.wr_y (by simp only [List.getElem?_toArray, List.getElem?_cons_succ, List.getElem?_cons_zero]; rfl) (by rfl) ?_
                 apply Exists.intro
                 refine ⟨fun wz hw _ => ?_, ?_⟩
                 · have hcz := hw.cells.1
                   go_simp
                   (with_reducible exact Rg.up_value)
                 simp only [Act.put, List.setIfInBounds_toArray, List.set_cons_zero, List.set_cons_succ])
                (refine Rr.wr_y (by simp only [List.getElem?_toArray, List.getElem?_cons_succ, List.getElem?_cons_zero]; rfl) (by rfl) ?_
                 apply Exists.intro
                 refine ⟨fun wz hw _ => ?_, ?_⟩
                 · have hcz := hw.cells.1
                   go_simp
                   (with_reducible exact Rg.up_value)
                 simp only [Act.put, List.setIfInBounds_toArray, List.set_cons_zero, List.set_cons_succ])
                (refine Rr.wr_y (by simp only [List.getElem?_toArray, List.getElem?_cons_succ, List.getElem?_cons_zero]; rfl) (by rfl) ?_
                 apply Exists.intro
                 refine ⟨fun wz hw _ => ?_, ?_⟩
                 · have hcz := hw.cells.1
                   go_simp
                   (with_reducible exact Rg.up_value)
                 simp only [Act.put, List.setIfInBounds_toArray, List.set_cons_zero, List.set_cons_succ])
                (refine Rr.wr_y (by simp only [List.getElem?_toArray, List.getElem?_cons_succ, List.getElem?_cons_zero]; rfl) (by rfl) ?_
                 apply Exists.intro
                 refine ⟨fun wz hw _ => ?_, ?_⟩
                 · have hcz := hw.cells.1
                   go_simp
                   (with_reducible exact Rg.up_value)
                 simp only [Act.put, List.setIfInBounds_toArray, List.set_cons_zero, List.set_cons_succ])
                (refine Rr.wr_y (by simp only [List.getElem?_toArray, List.getElem?_cons_succ, List.getElem?_cons_zero]; rfl) (by rfl) ?_
                 apply Exists.intro
                 refine ⟨fun wz hw _ => ?_, ?_⟩
                 · have hcz := hw.cells.1
                   go_simp
                   (with_reducible exact Rg.up_value)
                 simp only [Act.put, List.setIfInBounds_toArray, List.set_cons_zero, List.set_cons_succ])
                (refine Rr.wr_y (by simp only [List.getElem?_toArray, List.getElem?_cons_succ, List.getElem?_cons_zero]; rfl) (by rfl) ?_
                 apply Exists.intro
                 refine ⟨fun wz hw _ => ?_, ?_⟩
                 · have hcz := hw.cells.1
                   go_simp
                   (with_reducible exact Rg.up_value)
                 simp only [Act.put, List.setIfInBounds_toArray, List.set_cons_zero, List.set_cons_succ])
                (refine Rr.wr_y (by simp only [List.getElem?_toArray, List.getElem?_cons_succ, List.getElem?_cons_zero]; rfl) (by rfl) ?_
                 apply Exists.intro
                 refine ⟨fun wz hw _ => ?_, ?_⟩
                 · have hcz := hw.cells.1
                   go_simp
                   (with_reducible exact Rg.up_value)
                 simp only [Act.put, List.setIfInBounds_toArray, List.set_cons_zero, List.set_cons_succ])
                (refine Rr.wr_y (by simp only [List.getElem?_toArray, List.getElem?_cons_succ, List.getElem?_cons_zero]; rfl) (by rfl) ?_
                 apply Exists.intro
                 refine ⟨fun wz hw _ => ?_, ?_⟩
                 · have hcz := hw.cells.1
                   exact up_load51 (by rfl) ((hcz _ _ pl).trans p0) ((hcz _ _ pl).trans p1)
                 simp only [Act.put, List.setIfInBounds_toArray, List.set_cons_zero, List.set_cons_succ])
                refine Rr.wr_m (by simp only [List.getElem?_toArray, List.getElem?_cons_succ, List.getElem?_cons_zero]; rfl) (by rfl) (fun wz => by go_simp) (fun p hp => ?_)
                simp only [Act.put, List.setIfInBounds_toArray, List.set_cons_zero, List.set_cons_succ]
                refine Rr.wr_nil ?_
                intro wy6 hy6 hh6
                obtain ⟨-, hb2⟩ := hh6 _ List.mem_cons_self
                simp only [List.filterMap_cons, List.filterMap_nil, List.getElem?_cons_succ, List.getElem?_cons_zero]
                have HP := Lib.hid hb2; have HY := Lib.hid hy6
                clear hh6 hb2 hy6
                refine append_g (cs := Dy.cs) (z := .agg #[.int .i64 0, .int .i64 0]) 58 57 16 Tryz.underlying58 (by kernel_rfl) (by rfl) (by decide) (by decide) rfl (.tmp 111) (.tmp 116) rfl B (.slice xb D.length xc) D (by rfl) (row_ext HR6.out HY.out) p ⟨ya, yb⟩ ⟨rfl, by simp [Dy.cs, Value.oneCell']⟩ (by rfl) HP.out (by have := HLW.out; omega) (by have := HY.out.size; have := HS6.out.2.2.2; omega) ?_
                intro g cap w7 hr7 hg7 hat7
                have HS7 := Lib.hid ((HS6.out.ext HY.out).gro (row_ext HR6.out HY.out) hg7 HB.out.1 HB.out.2.1 HB.out.2.2.2.2.1)
                have HR7 := Lib.hid hr7
                have HL7 := Lib.hid (row_grown (row_ext HL6.out HY.out) (row_ext HR6.out HY.out) (by decide) hg7)
                have HK7 := Lib.hid (row_grown (row_ext HK6.out HY.out) (row_ext HR6.out HY.out) (by decide) hg7)
                clear hr7 hg7 hat7 u2 ul p0 p1 pl
                obtain ⟨-, -, v0, vll, vf⟩ := bcells HS7.out.2.1
                have vf0 := vf 2
                clear vf
                go_wp2_with (fail)
                refine ⟨⟨i + 1, .slice (some ⟨g, 0, none⟩) (D.length + 1) cap, by simp, by omega, ⟨?_, heap_setCell_same w7 pb 2 _ 80 _ HS7.out.2.1, ?_, ?_⟩, row_set HL7.out HB.out.2.1 2 _, row_set HK7.out HB.out.2.1 2 _, ?_⟩, by simp [iof]; omega⟩
                · exact (heap_setCell_other w7 _ pc _ (by have := HB.out; show pc ≠ pb; omega)).trans HS7.out.1
                · exact Below.setCell HS7.out.2.2.1 (by have := HB.out; show _ ≤ pb; omega) _
                · rw [World.size_setCell]; exact HS7.out.2.2.2
                · rw [HF2.out]
                  exact row_set HR7.out HB.out.2.1 2 _
            · obtain rfl : i = ds.length := by omega
              rw [List.take_length] at HROW HS
              go_wp2_with (fail)
              go_ret
              have hb := HB.out
              exact ⟨pb, _, _, _, rfl, hb.2.2.2.2.2.1, HS.out.2.1, row_base HRL.out hb.2.2.2.2.1, row_base HRK.out hb.2.2.2.2.1, row_base HROW.out hb.2.2.2.2.1, HS.out.2.2.1⟩
theorem refNew_any (ls : List Lt) (cs : List Cr) (ds : List Dy) (vl vc vd : Value) (w : World) (hl : SR Lt.cs 2 w vl ls) (hc : SR Cr.cs 5 w vc cs) (hd : SR Dy.cs 2 w vd ds)
    (hlo : ∀ l ∈ ls, OkI l.id) (hll : ls.length ≤ 1000) (hcl : cs.length ≤ 1000) (hdl : ds.length ≤ 1000) :
    Calls Tryz.prog 17 #[.agg (tenC vl vc), vd] w fun e w' => ∃ p, e = .returned (.pointer (some ⟨p, 0, none⟩)) ∧ RB w.heap.size w' p (lotsW ls) (crisW cs) (dutsW ds) ∧ Ext w w' :=
  (refNew_w ls cs ds vl vc vd w hl hc hd hlo hll hcl hdl).mono fun _ _ ⟨p, _, _, _, he, hp, hh, h1, h2, h3, hx⟩ => ⟨p, he, ⟨_, _, _, hp, ⟨_, _, _, hh⟩, h1, h2, h3⟩, hx⟩
end Go.Proofs.YtnplnfkmcfalhaaGreatDoor
