/-
  EvalAdmits walked. Conditions: the argument's slices read as lists.
-/
import Derived.Test.YtgkdeknfmmgbdaaAdF
import Derived.Test.YtgkdeknfmmgbdaaAdR
namespace Go.Proofs.Ytgkdeknfmmgbdaa
set_option linter.unusedVariables false
set_option linter.unusedSimpArgs false
open Go.RowKit

/-- What tender and entry give. -/
def TenR (low high : Int) (ls : List Int) (cs : List (Int × Int)) (rs : List (Int × Int × Int)) (v : Value) (w : World) : Prop :=
  ∃ x y z, v = .agg (tenC (tnv x y z low high)) ∧ SR cellsLot 2 w (slV x) (lotN 0 (ls.take 5)) ∧ SR cellsCr 5 w (slV y) (crN 0 (cs.take 4)) ∧ SR cellsRq 3 w (slV z) (rqN (rs.take 4))
def EntR (lot price : Int) (vs : List (Int × Int)) (v : Value) (w : World) : Prop := ∃ x, v = .agg (entC 1 lot 0 price x) ∧ VRd All w (vlN (vs.take 6)) (slV x)
theorem TenR.keeps {low high : Int} {ls : List Int} {cs : List (Int × Int)} {rs : List (Int × Int × Int)} (v : Value) : Rr.Keeps (TenR low high ls cs rs v) := fun _ _ h e => by
  obtain ⟨x, y, z, h1, h2, h3, h4⟩ := h
  exact ⟨x, y, z, h1, h2.ext e, h3.ext e, h4.ext e⟩
theorem EntR.keeps {lot price : Int} {vs : List (Int × Int)} (v : Value) : Rr.Keeps (EntR lot price vs v) := fun _ _ h e => by
  obtain ⟨x, h1, h2⟩ := h
  exact ⟨x, h1, h2.ext e⟩

set_option maxRecDepth 100000 in
set_option maxHeartbeats 4000000 in
theorem admits_walk (ls : List Int) (low high : Int) (cs : List (Int × Int)) (rs : List (Int × Int × Int)) (lot price : Int) (vs : List (Int × Int)) (x0 x1 x2 x3 : Sl) (w : World)
    (h0 : IRd w (slV x0) ls) (h1 : R2d w (slV x1) cs) (h2 : R3d w (slV x2) rs) (h3 : R2d w (slV x3) vs) :
    Calls Try.prog 11 #[.agg (casC x0 low high x1 x2 lot price x3)] w fun e w' => e = .returned (.bool true) ∧ Ext w w' := by
  have H0 := Lib.hid h0
  have H1 := Lib.hid h1
  have H2 := Lib.hid h2
  have H3 := Lib.hid h3
  clear h0 h1 h2 h3
  have HT := Lib.hid (fun (w' : World) (e : Ext w w') => (tender_any ls low high cs rs lot price x0 x1 x2 x3 w' (H0.out.ext e) (H1.out.ext e) (H2.out.ext e)).mono (R' := fun e w'' => ∃ v, e = .returned v ∧ Ext w' w'' ∧ TenR low high ls cs rs v w'') fun e w'' ⟨x, y, z, h1, h2, h3⟩ => ⟨_, h1, h2, x, y, z, rfl, h3⟩)
  have HE := Lib.hid (fun (w' : World) (e : Ext w w') => (entry_any low high lot price vs x0 x1 x2 x3 w' (H3.out.ext e)).mono (R' := fun e w'' => ∃ v, e = .returned v ∧ Ext w' w'' ∧ EntR lot price vs v w'') fun e w'' ⟨x, h1, h2, h3⟩ => ⟨_, h1, h2, x, rfl, h3⟩)
  go_enter Try.func11, Try.ntmps11
  go_upto_region 2 with (go_at_call 13; (with_reducible refine (sanity_any _).mono ?_); rintro e w1 ⟨rfl, hx1⟩)
  have hC : (w.alloc (.cells (casC x0 low high x1 x2 lot price x3) 77)).heap[w.heap.size]? = some (.cells (casC x0 low high x1 x2 lot price x3) 77) := block_new rfl
  have hCw := (hx1.block _ (Rg.lt_of_heap hC)).trans hC
  have hxw : Ext w w1 := (by with_reducible repeat (first | exact Ext.refl _ | assumption | apply Ext.drewN | apply Ext.drew | apply Ext.alloc | (refine Ext.setCell ?_ (by simp <;> omega) _) | (refine Ext.trans ?_ (by assumption))))
  have HC := Lib.hid hCw
  clear hC hCw
  generalize w.heap.size = pc at *
  obtain ⟨r, hr⟩ : ∃ r, r = admitI (lotN 0 (ls.take 5)) (crN 0 (cs.take 4)) (rqN (rs.take 4)) low high lot price (vlN (vs.take 6)) := ⟨_, rfl⟩
  have HR := Lib.hid hr
  clear hr
  refine Rr.wp_region [(0, .y), (1, .y), (2, .y), (4, .y), (7, .y), (9, .y), (3, .z), (5, .z), (6, .y), (8, .z), (10, .z), (11, .y), (12, .y), (13, .y)] (fun _ => (.cells #[] 29, Rg.ptr)) (by kernel_rfl) (by kernel_rfl) ?_
  (refine Rr.wr_y (by simp only [List.getElem?_toArray, List.getElem?_cons_succ, List.getElem?_cons_zero]; rfl) (by rfl) ?_
   apply Exists.intro
   refine ⟨fun wz hw _ => ?_, ?_⟩
   · have hcz := hw.cells.1
     go_simp
     (with_reducible exact Rg.up_value)
   simp only [Act.put, List.setIfInBounds_toArray, List.set_cons_zero, List.set_cons_succ])
  (refine Rr.wr_y (by simp only [List.getElem?_toArray, List.getElem?_cons_succ, List.getElem?_cons_zero]; rfl) (by rfl) ?_
   apply Exists.intro
   refine ⟨fun wz hw _ => ?_, ?_⟩
   · have hcz := hw.cells.1
     go_simp
     (with_reducible exact Rg.up_value)
   simp only [Act.put, List.setIfInBounds_toArray, List.set_cons_zero, List.set_cons_succ])
  (refine Rr.wr_y (by simp only [List.getElem?_toArray, List.getElem?_cons_succ, List.getElem?_cons_zero]; rfl) (by rfl) ?_
   apply Exists.intro
   refine ⟨fun wz hw _ => ?_, ?_⟩
   · have hcz := hw.cells.1
     exact up_row (by rfl) ((hw.block _ (Rg.lt_of_heap HC.out)).trans HC.out) Try.underlying77 (by kernel_rfl)
   simp only [Act.put, List.setIfInBounds_toArray, List.set_cons_zero, List.set_cons_succ])
  (refine Rr.wr_y (by simp only [List.getElem?_toArray, List.getElem?_cons_succ, List.getElem?_cons_zero]; rfl) (by rfl) ?_
   apply Exists.intro
   refine ⟨fun wz hw _ => ?_, ?_⟩
   · have hcz := hw.cells.1
     exact up_row (by rfl) ((hw.block _ (Rg.lt_of_heap HC.out)).trans HC.out) Try.underlying77 (by kernel_rfl)
   simp only [Act.put, List.setIfInBounds_toArray, List.set_cons_zero, List.set_cons_succ])
  (refine Rr.wr_y (by simp only [List.getElem?_toArray, List.getElem?_cons_succ, List.getElem?_cons_zero]; rfl) (by rfl) ?_
   apply Exists.intro
   refine ⟨fun wz hw _ => ?_, ?_⟩
   · have hcz := hw.cells.1
     exact up_row (by rfl) ((hw.block _ (Rg.lt_of_heap HC.out)).trans HC.out) Try.underlying77 (by kernel_rfl)
   simp only [Act.put, List.setIfInBounds_toArray, List.set_cons_zero, List.set_cons_succ])
  (refine Rr.wr_y (by simp only [List.getElem?_toArray, List.getElem?_cons_succ, List.getElem?_cons_zero]; rfl) (by rfl) ?_
   apply Exists.intro
   refine ⟨fun wz hw _ => ?_, ?_⟩
   · have hcz := hw.cells.1
     exact up_row (by rfl) ((hw.block _ (Rg.lt_of_heap HC.out)).trans HC.out) Try.underlying77 (by kernel_rfl)
   simp only [Act.put, List.setIfInBounds_toArray, List.set_cons_zero, List.set_cons_succ])
  refine Rr.wr_z (TenR low high ls cs rs) (by simp only [List.getElem?_toArray, List.getElem?_cons_succ, List.getElem?_cons_zero]; rfl) (by rfl) (fun v => TenR.keeps v) (fun wz hw hh => ?_) (fun u1 => ?_)
  · go_simp
    apply Rr.upR_enter
    exact HT.out _ (hxw.trans hw)
  simp only [Act.put, List.setIfInBounds_toArray, List.set_cons_zero, List.set_cons_succ]
  refine Rr.wr_z (EntR lot price vs) (by simp only [List.getElem?_toArray, List.getElem?_cons_succ, List.getElem?_cons_zero]; rfl) (by rfl) (fun v => EntR.keeps v) (fun wz hw hh => ?_) (fun u2 => ?_)
  · go_simp
    apply Rr.upR_enter
    exact HE.out _ (hxw.trans hw)
  simp only [Act.put, List.setIfInBounds_toArray, List.set_cons_zero, List.set_cons_succ]
  refine Rr.wr_y (by simp only [List.getElem?_toArray, List.getElem?_cons_succ, List.getElem?_cons_zero]; rfl) (by rfl) ⟨.int .i64 r, fun wz hw hh => ?_, ?_⟩
  · obtain ⟨x4, h5, h6⟩ := hh _ List.mem_cons_self
    obtain ⟨x5, x6, x7, h7, h8, h9, h10⟩ := hh _ (List.mem_cons_of_mem _ List.mem_cons_self)
    subst h5 h7
    go_simp
    apply Rg.up_enter
    refine (Admit_any (tnv x5 x6 x7 low high) 1 lot 0 price x4 _ _ _ _ _ h8 h9 h10 h6).mono ?_
    rintro e w3 ⟨rfl, hb3⟩
    exact ⟨by rw [HR.out], hb3⟩
  simp only [Act.put, List.setIfInBounds_toArray, List.set_cons_zero, List.set_cons_succ]
  refine Rr.wr_z (TenR low high ls cs rs) (by simp only [List.getElem?_toArray, List.getElem?_cons_succ, List.getElem?_cons_zero]; rfl) (by rfl) (fun v => TenR.keeps v) (fun wz hw hh => ?_) (fun u3 => ?_)
  · go_simp
    apply Rr.upR_enter
    exact HT.out _ (hxw.trans hw)
  simp only [Act.put, List.setIfInBounds_toArray, List.set_cons_zero, List.set_cons_succ]
  refine Rr.wr_z (EntR lot price vs) (by simp only [List.getElem?_toArray, List.getElem?_cons_succ, List.getElem?_cons_zero]; rfl) (by rfl) (fun v => EntR.keeps v) (fun wz hw hh => ?_) (fun u4 => ?_)
  · go_simp
    apply Rr.upR_enter
    exact HE.out _ (hxw.trans hw)
  simp only [Act.put, List.setIfInBounds_toArray, List.set_cons_zero, List.set_cons_succ]
  refine Rr.wr_y (by simp only [List.getElem?_toArray, List.getElem?_cons_succ, List.getElem?_cons_zero]; rfl) (by rfl) ⟨.int .i64 r, fun wz hw hh => ?_, ?_⟩
  · obtain ⟨x4, h5, h6⟩ := hh _ List.mem_cons_self
    obtain ⟨x5, x6, x7, h7, h8, h9, h10⟩ := hh _ (List.mem_cons_of_mem _ List.mem_cons_self)
    subst h5 h7
    go_simp
    apply Rg.up_enter
    refine (refAdmit_any (tnv x5 x6 x7 low high) 1 lot 0 price x4 _ _ _ _ _ h8 h9 h10 h6).mono ?_
    rintro e w3 ⟨rfl, hb3⟩
    exact ⟨by rw [HR.out], hb3⟩
  simp only [Act.put, List.setIfInBounds_toArray, List.set_cons_zero, List.set_cons_succ]
  (refine Rr.wr_y (by simp only [List.getElem?_toArray, List.getElem?_cons_succ, List.getElem?_cons_zero]; rfl) (by rfl) ?_
   apply Exists.intro
   refine ⟨fun wz hw _ => ?_, ?_⟩
   · have hcz := hw.cells.1
     go_simp
     (with_reducible exact Rg.up_value)
   simp only [Act.put, List.setIfInBounds_toArray, List.set_cons_zero, List.set_cons_succ])
  (refine Rr.wr_y (by simp only [List.getElem?_toArray, List.getElem?_cons_succ, List.getElem?_cons_zero]; rfl) (by rfl) ?_
   apply Exists.intro
   refine ⟨fun wz hw _ => ?_, ?_⟩
   · have hcz := hw.cells.1
     go_simp
     (with_reducible exact Rg.up_value)
   simp only [Act.put, List.setIfInBounds_toArray, List.set_cons_zero, List.set_cons_succ])
  refine Rr.wr_nil ?_
  intro wy hy hh
  simp only [List.length_cons, List.length_nil, List.drop_succ_cons, List.drop_zero, Nat.reduceAdd]
  clear hh
  go_wp2
  go_ret
  exact ⟨rfl, (by with_reducible repeat (first | exact Ext.refl _ | assumption | apply Ext.drewN | apply Ext.drew | apply Ext.alloc | (refine Ext.setCell ?_ (by simp <;> omega) _) | (refine Ext.trans ?_ (by assumption))))⟩
end Go.Proofs.Ytgkdeknfmmgbdaa
