/-
  EvalPoints walked. Conditions: the arguments read as lists of ints, and ints of the machine.
-/
import Derived.Test.YtgkdeknfmmgbdaaPtA
import Derived.Test.YtgkdeknfmmgbdaaJnI
import Derived.Laws.Rows
import Derived.Laws.CopyRow
namespace Go.Proofs.Ytgkdeknfmmgbdaa
set_option linter.unusedVariables false
set_option linter.unusedSimpArgs false
open Go.RowKit

theorem valE_name {vs : Vals} {nm : ByteArray} {k : Int} (h : look vs nm = some k) : valueE vs (nameE nm) = .ok (k, 1) := by
  unfold nameE leaf
  rw [valueE, name_not, name_is, h]
  rfl
theorem look_price (p l : Int) (us : Vals) : look (ptVals p l us) priceB = some p := by
  unfold ptVals; rw [look, show (priceB.toList == priceB.toList) = true by rw [beq_iff_eq]]; rfl
theorem look_low (p l : Int) (us : Vals) : look (ptVals p l us) lowB = some l := by
  unfold ptVals
  rw [look, show (priceB.toList == lowB.toList) = false by kernel_rfl]
  simp only [Bool.false_eq_true, if_false]
  rw [look, show (lowB.toList == lowB.toList) = true by rw [beq_iff_eq]]; rfl
abbrev difE : Ex := opE' subB (nameE priceB) (nameE lowB)
theorem dif_val (us : Vals) : evalI (ptVals 7 3 us) difE = ((4, 1), 0) := by
  have h0 : wrongI difE = 0 := by kernel_rfl
  unfold evalI
  rw [if_pos h0, show difE = opE' (opNm 1) (nameE priceB) (nameE lowB) from rfl, value_op _ 1 (by decide), valE_name (look_price 7 3 us), valE_name (look_low 7 3 us)]
  simp only
  rw [show appE (applyI 1 (7, 1) (3, 1)) = .ok (4, 1) by kernel_rfl]
/-- A tender with nothing but a formula. -/
abbrev tenF (f0 f1 f2 f3 f4 : Value) : Array Value := #[.string nilB, .slice none 0 0, .slice none 0 0, .slice none 0 0, .int .i64 0, .int .i64 0, f0, f1, f2, f3, f4, .slice none 0 0, .int .i64 0, .slice none 0 0, .int .i64 0, .int .i64 0, .int .i64 0, .int .i64 0, .int .i64 0, .int .i64 0]
abbrev tenZ : Array Value := tenF (.string nilB) (.int .i64 0) (.int .i64 0) (.string nilB) (.slice none 0 0)
abbrev entF (p : Int) (v : Value) : Array Value := #[.int .i64 0, .int .i64 0, .int .i64 0, .int .i64 p, v]

set_option maxRecDepth 100000 in
set_option maxHeartbeats 4000000 in
theorem points_walk (l0 l1 : List Int) (q0 q1 : Int) (b0 : -9223372036854775808 ≤ q0 ∧ q0 ≤ 9223372036854775807) (b1 : -9223372036854775808 ≤ q1 ∧ q1 ≤ 9223372036854775807) (w : World) (v0 v1 : Value) (r0 : IRd w v0 l0) (r1 : IRd w v1 l1) :
    Calls Try.prog 9 #[v0, v1, .agg #[.int .i64 q0, .int .i64 q1]] w fun e w' => e = .returned (.bool true) ∧ Ext w w' := by
  have HMA := Lib.hid (fun w' (hw : Ext w w') => Made_any l0 w' v0 (r0.ext hw))
  have HVA : Hid (∀ w', Ext w w' → Calls Try.prog 15 #[v1] w' fun e w'' => ∃ u, e = .returned u ∧ Ext w' w'' ∧ VRd All w'' (valuesE l1) u) := Lib.hid (fun w' (hw : Ext w w') => (Values_any l1 w' v1 (r1.ext hw)).mono fun _ _ ⟨u, h1, h2, h3, _⟩ => ⟨u, h1, h2, h3⟩)
  have hvl : (valuesE l1).length ≤ 6 := by
    unfold valuesE; rw [valN_length, List.length_take]; omega
  have HVL := Lib.hid hvl
  have HTP := Lib.hid (madeE_parts l0)
  have HB0 := Lib.hid b0; have HB1 := Lib.hid b1
  clear r0 r1 hvl b0 b1
  generalize madeE l0 = te at *
  generalize valuesE l1 = vs at *
  go_enter Try.func9, Try.ntmps9
  have hb5 : (w.alloc (.cells #[.int .i64 q0, .int .i64 q1] 23)).heap[w.heap.size]? = some (.cells #[.int .i64 q0, .int .i64 q1] 23) := block_new rfl
  have H5 := Lib.hid hb5
  clear hb5
  go_upto_region 3 with (first
    | (go_at_call 13; (with_reducible refine (sanity_any _).mono ?_); rintro e w1 ⟨rfl, hx1⟩)
    | (go_at_call 14; (with_reducible refine (HMA.out _ (by with_reducible repeat (first | exact Ext.refl _ | assumption | apply Ext.drewN | apply Ext.drew | apply Ext.alloc | (refine Ext.setCell ?_ (by simp <;> omega) _) | (refine Ext.trans ?_ (by assumption))))).mono ?_); rintro e w2 ⟨u2, rfl, hx2, hr2⟩; obtain ⟨op, m1, m2, nm, base, len, capt, hform⟩ := hr2.form; subst hform)
    | (refine wpList_store_row (hgd := rfl) 68 (.tmp 8) (.tmp 19) rfl w2.heap.size (by rfl) (tenF (.string op) (.int .i64 m1) (.int .i64 m2) (.string nm) (.slice base len capt)) (by rfl) tenZ 68 (block_new rfl) (by rfl) (by kernel_rfl) (by intro v hv; simp at hv; rcases hv with rfl | rfl | rfl | rfl | rfl | rfl | rfl | rfl | rfl | rfl | rfl | rfl | rfl | rfl | rfl | rfl | rfl | rfl | rfl | rfl <;> rfl) ?_))
  have hx5 : Ext w (w.alloc (.cells #[.int .i64 q0, .int .i64 q1] 23)) := (by with_reducible repeat (first | exact Ext.refl _ | assumption | apply Ext.drewN | apply Ext.drew | apply Ext.alloc | (refine Ext.setCell ?_ (by simp <;> omega) _) | (refine Ext.trans ?_ (by assumption))))
  have hx3 : Ext w2 ((w2.alloc (.cells tenZ 68)).setRow w2.heap.size (tenF (.string op) (.int .i64 m1) (.int .i64 m2) (.string nm) (.slice base len capt))) := below_setRow ((by with_reducible repeat (first | exact Ext.refl _ | assumption | apply Ext.drewN | apply Ext.drew | apply Ext.alloc | (refine Ext.setCell ?_ (by simp <;> omega) _) | (refine Ext.trans ?_ (by assumption)))) : Ext w2 (w2.alloc (.cells tenZ 68))) (Nat.le_refl _) _
  have h8 : ((w2.alloc (.cells tenZ 68)).setRow w2.heap.size (tenF (.string op) (.int .i64 m1) (.int .i64 m2) (.string nm) (.slice base len capt))).heap[w2.heap.size]? = some (.cells (tenF (.string op) (.int .i64 m1) (.int .i64 m2) (.string nm) (.slice base len capt)) 68) := setRow_heap _ _ tenZ _ 68 _ (block_new rfl)
  have hx13 := hx1.trans (hx2.trans hx3)
  have hw8 : w.heap.size ≤ w2.heap.size := (hx5.trans (hx1.trans hx2)).size
  have hq := (hx13.block _ (Rg.lt_of_heap H5.out)).trans H5.out
  have HQ := Lib.hid hq
  have H8 := Lib.hid h8
  have HR3 := Lib.hid (hr2.ext hx3)
  have HX3 := Lib.hid (hx5.trans hx13)
  clear hx1 hx2 hx3 hx5 hx13 hr2 H5 h8 HMA
  try change Code.wp _ _ _ _ ((w2.alloc (.cells tenZ 68)).setRow w2.heap.size (tenF (.string op) (.int .i64 m1) (.int .i64 m2) (.string nm) (.slice base len capt)))
  generalize ((w2.alloc (.cells tenZ 68)).setRow w2.heap.size (tenF (.string op) (.int .i64 m1) (.int .i64 m2) (.string nm) (.slice base len capt))) = W3 at *
  obtain ⟨p8, hp8e⟩ : ∃ p8, p8 = w2.heap.size := ⟨_, rfl⟩
  obtain ⟨p5, hp5e⟩ : ∃ p5, p5 = w.heap.size := ⟨_, rfl⟩
  rw [← hp8e] at H8 hw8 ⊢
  rw [← hp5e] at HQ hq ⊢
  have HW8 := Lib.hid hw8
  clear hp8e hp5e hw8
  obtain ⟨cq, -, lq⟩ := Rg.cells_of hq
  have a0 : W3.cell? ⟨p5, 0, none⟩ = some (.int .i64 q0) := cq 0
  clear cq hq
  refine Rr.wp_region [(0, .y), (1, .y), (2, .y), (3, .z), (4, .y), (5, .m)] (fun _ => (.cells (entF 0 (.slice none 0 0)) 70, Rg.ptr)) (by kernel_rfl) (by kernel_rfl) ?_
  (refine Rr.wr_y (by simp only [List.getElem?_toArray, List.getElem?_cons_succ, List.getElem?_cons_zero]; rfl) (by rfl) ?_
   apply Exists.intro
   refine ⟨fun wz hw _ => ?_, ?_⟩
   · have hcz := hw.cells.1
     go_simp
     (with_reducible exact Rg.up_value)
   simp only [Act.put, List.setIfInBounds_toArray, List.set_cons_zero, List.set_cons_succ])
  (refine Rr.wr_y (by simp only [List.getElem?_toArray, List.getElem?_cons_succ, List.getElem?_cons_zero]; rfl) (by rfl) ?_
   apply Exists.intro
   refine ⟨fun wz hw _ => ?_, ?_⟩
   · have hcz := hw.cells.1
     go_simp
     (with_reducible exact Rg.up_value)
   simp only [Act.put, List.setIfInBounds_toArray, List.set_cons_zero, List.set_cons_succ])
  (refine Rr.wr_y (by simp only [List.getElem?_toArray, List.getElem?_cons_succ, List.getElem?_cons_zero]; rfl) (by rfl) ?_
   apply Exists.intro
   refine ⟨fun wz hw _ => ?_, ?_⟩
   · have hcz := hw.cells.1
     go_simp
     (with_reducible exact Rg.up_value)
   simp only [Act.put, List.setIfInBounds_toArray, List.set_cons_zero, List.set_cons_succ])
  refine Rr.wr_z (fun v w' => VRd All w' vs v) (by simp only [List.getElem?_toArray, List.getElem?_cons_succ, List.getElem?_cons_zero]; rfl) (by rfl) (fun v w1 w2 h e => by first | exact Rd.ext e h | exact h.ext e) (fun wz hw hh => ?_) (fun u => ?_)
  · have hcz := hw.cells.1
    go_simp
    apply Rr.upR_enter
    (with_reducible refine (HVA.out wz (HX3.out.trans hw)).mono ?_)
    rintro e w3 ⟨v3, rfl, hx3, hr3⟩
    exact ⟨v3, rfl, hx3, hr3⟩
  simp only [Act.put, List.setIfInBounds_toArray, List.set_cons_zero, List.set_cons_succ]
  refine Rr.wr_y (by simp only [List.getElem?_toArray, List.getElem?_cons_succ, List.getElem?_cons_zero]; rfl) (by rfl) ⟨.agg (entF q0 u), fun wz hw hh => ?_, ?_⟩
  · obtain ⟨A, cp, rfl⟩ : ∃ A cp, u = .slice A vs.length cp := by obtain ⟨A, cp, h, -⟩ := hold0 hh; exact ⟨A, cp, h⟩
    go_simp
    (with_reducible exact Rg.up_value)
  simp only [Act.put, List.setIfInBounds_toArray, List.set_cons_zero, List.set_cons_succ]
  refine Rr.wr_m (by simp only [List.getElem?_toArray, List.getElem?_cons_succ, List.getElem?_cons_zero]; rfl) (by rfl) (fun wz => by go_simp) (fun p9 hp9 => ?_)
  simp only [Act.put, List.setIfInBounds_toArray, List.set_cons_zero, List.set_cons_succ]
  refine Rr.wr_nil ?_
  intro wy hy hh
  simp only [List.length_cons, List.length_nil, List.drop_succ_cons, List.drop_zero, Nat.reduceAdd]
  obtain ⟨hb1, hb2⟩ := hh _ List.mem_cons_self
  have hvr := hold1 hh
  obtain ⟨A, cp, hsl⟩ : ∃ A cp, u = .slice A vs.length cp := by obtain ⟨A, cp, h, -⟩ := hvr; exact ⟨A, cp, h⟩
  subst hsl
  clear hh
  refine wpList_store_row (hgd := rfl) 70 (.tmp 9) (.tmp 24) rfl p9 (by rfl) (entF q0 (.slice A vs.length cp)) (by rfl) _ 70 hb2 (by rfl) (by kernel_rfl) (by intro v hv; simp at hv; rcases hv with rfl | rfl | rfl | rfl | rfl <;> rfl) ?_
  have h9 := setRow_heap wy p9 _ (entF q0 (.slice A vs.length cp)) 70 _ hb2
  have hx4 : Ext W3 (wy.setRow p9 (entF q0 (.slice A vs.length cp))) := below_setRow hy hb1 _
  have hvr4 : VRd All (wy.setRow p9 (entF q0 (.slice A vs.length cp))) vs (.slice A vs.length cp) := by
    obtain ⟨A', c', e, h1, h2, h3⟩ := hvr
    refine ⟨A', c', e, h1, h2, h3.imp id fun ⟨b, hb, hs, hc⟩ => ⟨b, hb, hs, fun k hk => ?_⟩⟩
    have hbp : b ≠ p9 := by
      rintro rfl
      have hk' := (hc 0 (by omega)).1
      rw [(Rg.cells_of hb2).1] at hk'
      cases hk'
    exact ⟨(cell_setRow_other _ _ _ _ hbp).trans (hc k hk).1, (cell_setRow_other _ _ _ _ hbp).trans (hc k hk).2⟩
  have hb9 : W3.heap.size ≤ p9 := hb1
  generalize wy.setRow p9 (entF q0 (.slice A vs.length cp)) = W4 at *
  have h8' := (hx4.block _ (Rg.lt_of_heap H8.out)).trans H8.out
  have HN89 : Hid (¬ p9 = p8) := Lib.hid (by have := Rg.lt_of_heap H8.out; omega)
  have hq' := (hx4.block _ (Rg.lt_of_heap HQ.out)).trans HQ.out
  have H84 := Lib.hid h8'; have H94 := Lib.hid h9; have HQ4 := Lib.hid hq'; have HV4 := Lib.hid hvr4; have HR4 := Lib.hid (HR3.out.ext hx4); have HX4 := Lib.hid (HX3.out.trans hx4)
  clear h8' hq' hvr4 h9 hx4 hy hb1 hb2 hvr HX3 HR3 H8 HQ HVA hp9 hb9
  -- the two calls of Points
  have HPT := Lib.hid (fun W (hW : Ext W4 W) => points_any vs te q0 q1 HB0.out HB1.out W (.string nilB) (.slice none 0 0) (.slice none 0 0) (.slice none 0 0) (.int .i64 0) (.int .i64 0) (.string op) (.int .i64 m1) (.int .i64 m2) (.string nm) (.slice base len capt) (.slice none 0 0) (.int .i64 0) (.slice none 0 0) (.int .i64 0) (.int .i64 0) (.int .i64 0) (.int .i64 0) (.int .i64 0) (.int .i64 0) (.int .i64 0) (.int .i64 0) (.int .i64 0) (.slice A vs.length cp) (HR4.out.ext hW) (HV4.out.ext hW) (by have := HVL.out; omega))
  have HRP := Lib.hid (fun W (hW : Ext W4 W) => rpoints_any vs te (by have := HTP.out; omega) q0 q1 HB0.out HB1.out W (.string nilB) (.slice none 0 0) (.slice none 0 0) (.slice none 0 0) (.int .i64 0) (.int .i64 0) (.string op) (.int .i64 m1) (.int .i64 m2) (.string nm) (.slice base len capt) (.slice none 0 0) (.int .i64 0) (.slice none 0 0) (.int .i64 0) (.int .i64 0) (.int .i64 0) (.int .i64 0) (.int .i64 0) (.int .i64 0) (.int .i64 0) (.int .i64 0) (.int .i64 0) (.slice A vs.length cp) (HR4.out.ext hW) (HV4.out.ext hW) (by have := HVL.out; omega))
  obtain ⟨⟨⟨r1, r2⟩, rf⟩, hr⟩ : ∃ y, y = evalI (ptVals q0 q1 vs) te := ⟨_, rfl⟩
  rw [← hr] at HPT HRP
  clear hr
  obtain ⟨cq, -, lq⟩ := Rg.cells_of HQ4.out
  have a1 : W4.cell? ⟨p5, 1, none⟩ = some (.int .i64 q1) := cq 1
  clear cq
  go_upto_region 5 with (first
    | (refine wpList_load_row (hgd := rfl) 68 (.tmp 8) rfl p8 (by rfl) 68 _ _ _ H84.out Try.underlying68 rfl (by kernel_rfl) ?_)
    | (refine wpList_load_row (hgd := rfl) 70 (.tmp 9) rfl p9 (by rfl) 70 _ _ _ H94.out Try.underlying70 rfl (by kernel_rfl) ?_)
    | (go_at_call 32; (with_reducible refine (HPT.out _ (Ext.refl _)).mono ?_); rintro e w5 ⟨rfl, hx5⟩))
  have h10 : (w5.alloc (.cells #[.int .i64 r1, .int .i64 r2] 26)).heap[w5.heap.size]? = some (.cells #[.int .i64 r1, .int .i64 r2] 26) := block_new rfl
  have hx6 : Ext W4 (w5.alloc (.cells #[.int .i64 r1, .int .i64 r2] 26)) := (by with_reducible repeat (first | exact Ext.refl _ | assumption | apply Ext.drewN | apply Ext.drew | apply Ext.alloc | (refine Ext.setCell ?_ (by simp <;> omega) _) | (refine Ext.trans ?_ (by assumption))))
  have H10 := Lib.hid h10
  have HX6 := Lib.hid hx6
  have h85 := (hx6.block _ (Rg.lt_of_heap H84.out)).trans H84.out
  have h95 := (hx6.block _ (Rg.lt_of_heap H94.out)).trans H94.out
  have H85 := Lib.hid h85; have H95 := Lib.hid h95
  obtain ⟨cq, -, lq'⟩ := Rg.cells_of ((hx6.block _ (Rg.lt_of_heap HQ4.out)).trans HQ4.out)
  have HN10 : Hid (¬ w5.heap.size = p8) := Lib.hid (by have h1 := Rg.lt_of_heap H84.out; have h2 := hx5.size; omega)
  clear h10 hx6 hx5 a1 lq h85 h95 HPT
  generalize w5.alloc (.cells #[.int .i64 r1, .int .i64 r2] 26) = W5 at *
  generalize w5.heap.size = p10 at *
  have a1 : W5.cell? ⟨p5, 1, none⟩ = some (.int .i64 q1) := cq 1
  clear cq
  go_upto_region 6 with (first
    | (refine wpList_load_row (hgd := rfl) 68 (.tmp 8) rfl p8 (by rfl) 68 _ _ _ H85.out Try.underlying68 rfl (by kernel_rfl) ?_)
    | (refine wpList_load_row (hgd := rfl) 70 (.tmp 9) rfl p9 (by rfl) 70 _ _ _ H95.out Try.underlying70 rfl (by kernel_rfl) ?_)
    | (go_at_call 33; (with_reducible refine (HRP.out _ HX6.out).mono ?_); rintro e w6 ⟨rfl, hx6⟩))
  have h12 : (w6.alloc (.cells #[.int .i64 r1, .int .i64 r2] 26)).heap[w6.heap.size]? = some (.cells #[.int .i64 r1, .int .i64 r2] 26) := block_new rfl
  have hx7 : Ext W5 (w6.alloc (.cells #[.int .i64 r1, .int .i64 r2] 26)) := (by with_reducible repeat (first | exact Ext.refl _ | assumption | apply Ext.drewN | apply Ext.drew | apply Ext.alloc | (refine Ext.setCell ?_ (by simp <;> omega) _) | (refine Ext.trans ?_ (by assumption))))
  have H12 := Lib.hid h12
  have H10b := Lib.hid ((hx7.block _ (Rg.lt_of_heap H10.out)).trans H10.out)
  have h86 := (hx7.block _ (Rg.lt_of_heap H85.out)).trans H85.out
  have H86 := Lib.hid h86; have H96 := Lib.hid ((hx7.block _ (Rg.lt_of_heap H95.out)).trans H95.out)
  have HX7 := Lib.hid (HX6.out.trans hx7)
  have HN12 : Hid (¬ w6.heap.size = p8) := Lib.hid (by have h1 := Rg.lt_of_heap H85.out; have h2 := hx6.size; omega)
  clear h12 hx7 hx6 a1 lq' h86 HRP H10 H85 H95 HX6 H84 H94 HQ4
  generalize w6.alloc (.cells #[.int .i64 r1, .int .i64 r2] 26) = W6 at *
  generalize w6.heap.size = p12 at *
  go_upto_region 7 with (first
    | (go_at_call 30; (with_reducible refine (name_any _ _).mono ?_); rintro e wa ⟨rfl, hxa⟩)
    | (go_at_call 24; (with_reducible refine (op_any (fun b => W6.heap.size ≤ b) subB (nameE priceB) (nameE lowB) _ _ _ (Rd.leaf I2.zero) (Rd.leaf I2.zero) (fun b hb => Nat.le_trans ((by with_reducible repeat (first | exact Ext.refl _ | assumption | apply Ext.drewN | apply Ext.drew | apply Ext.alloc | (refine Ext.setCell ?_ (by simp <;> omega) _) | (refine Ext.trans ?_ (by assumption)))) : Ext W6 _).size hb)).mono ?_); rintro e wo ⟨vo, rfl, hxo, hro⟩; obtain ⟨op', n1', n2', nm', base', len', cap', hform⟩ := hro.form; subst hform; have hx67 : Ext W6 wo := (by with_reducible repeat (first | exact Ext.refl _ | assumption | apply Ext.drewN | apply Ext.drew | apply Ext.alloc | (refine Ext.setCell ?_ (by simp <;> omega) _) | (refine Ext.trans ?_ (by assumption)))); have h87 := (hx67.block _ (Rg.lt_of_heap H86.out)).trans H86.out; obtain ⟨c8, f8, l8⟩ := Rg.cells_of h87; have g6 := c8 6; have g7 := c8 7; have g8 := c8 8; have g9 := c8 9; have g10 := c8 10; have e6 := f8 6; have e7 := f8 7; have e8 := f8 8; have e9 := f8 9; have e10 := f8 10))
  have h7 : (((((wo.setCell ⟨p8, 6, none⟩ (.string op')).setCell ⟨p8, 7, none⟩ (.int .i64 n1')).setCell ⟨p8, 8, none⟩ (.int .i64 n2')).setCell ⟨p8, 9, none⟩ (.string nm')).setCell ⟨p8, 10, none⟩ (.slice base' len' cap')).heap[p8]? = some (.cells (tenF (.string op') (.int .i64 n1') (.int .i64 n2') (.string nm') (.slice base' len' cap')) 68) :=
    heap_setCell_same _ p8 10 _ 68 _ (heap_setCell_same _ p8 9 _ 68 _ (heap_setCell_same _ p8 8 _ 68 _ (heap_setCell_same _ p8 7 _ 68 _ (heap_setCell_same wo p8 6 _ 68 _ h87))))
  have hk7 : ∀ b, b ≠ p8 → (((((wo.setCell ⟨p8, 6, none⟩ (.string op')).setCell ⟨p8, 7, none⟩ (.int .i64 n1')).setCell ⟨p8, 8, none⟩ (.int .i64 n2')).setCell ⟨p8, 9, none⟩ (.string nm')).setCell ⟨p8, 10, none⟩ (.slice base' len' cap')).heap[b]? = wo.heap[b]? := fun b hb =>
    (heap_setCell_other _ _ _ _ hb).trans ((heap_setCell_other _ _ _ _ hb).trans ((heap_setCell_other _ _ _ _ hb).trans ((heap_setCell_other _ _ _ _ hb).trans (heap_setCell_other _ _ _ _ hb))))
  have hx7 : Ext w (((((wo.setCell ⟨p8, 6, none⟩ (.string op')).setCell ⟨p8, 7, none⟩ (.int .i64 n1')).setCell ⟨p8, 8, none⟩ (.int .i64 n2')).setCell ⟨p8, 9, none⟩ (.string nm')).setCell ⟨p8, 10, none⟩ (.slice base' len' cap')) :=
    Ext.setCell (Ext.setCell (Ext.setCell (Ext.setCell (Ext.setCell (HX4.out.trans (HX7.out.trans hx67)) HW8.out _) HW8.out _) HW8.out _) HW8.out _) HW8.out _
  try change Code.wp _ _ _ _ (((((wo.setCell ⟨p8, 6, none⟩ (.string op')).setCell ⟨p8, 7, none⟩ (.int .i64 n1')).setCell ⟨p8, 8, none⟩ (.int .i64 n2')).setCell ⟨p8, 9, none⟩ (.string nm')).setCell ⟨p8, 10, none⟩ (.slice base' len' cap'))
  generalize ((((wo.setCell ⟨p8, 6, none⟩ (.string op')).setCell ⟨p8, 7, none⟩ (.int .i64 n1')).setCell ⟨p8, 8, none⟩ (.int .i64 n2')).setCell ⟨p8, 9, none⟩ (.string nm')).setCell ⟨p8, 10, none⟩ (.slice base' len' cap') = W7 at *
  have hl8 := Rg.lt_of_heap H86.out
  have HR7 : Hid (Rd All W7 difE (.agg #[.string op', .int .i64 n1', .int .i64 n2', .string nm', .slice base' len' cap'])) := Lib.hid (Rd.frame (fun b o hs _ => World.cell?_of_block (hk7 b (by omega))) (fun _ _ => trivial) _ _ hro)
  have h97 := (hk7 p9 HN89.out).trans ((hx67.block _ (Rg.lt_of_heap H96.out)).trans H96.out)
  have H107 := Lib.hid ((hk7 p10 HN10.out).trans ((hx67.block _ (Rg.lt_of_heap H10b.out)).trans H10b.out))
  have H127 := Lib.hid ((hk7 p12 HN12.out).trans ((hx67.block _ (Rg.lt_of_heap H12.out)).trans H12.out))
  have HV7 : Hid (VRd All W7 vs (.slice A vs.length cp)) := Lib.hid (by
    obtain ⟨A', c', e, g1, g2, g3⟩ := HV4.out
    refine ⟨A', c', e, g1, g2, g3.imp id fun ⟨b, hb, hs, hc⟩ => ⟨b, hb, hs, fun k hk => ?_⟩⟩
    have hbp : b ≠ p8 := by
      rintro rfl
      have hk' := (hc 0 (by omega)).2
      have hx46 := (HX7.out.cells.1 b (0 * 2 + 1) (World.block_lt_of_cell? _ _ hk')).trans hk'
      rw [(Rg.cells_of H86.out).1] at hx46
      cases hx46
    have hbl := World.block_lt_of_cell? _ _ (hc k hk).1
    have hx47 := HX7.out.trans hx67
    exact ⟨(World.cell?_of_block (hk7 b hbp)).trans ((hx47.cells.1 b _ hbl).trans (hc k hk).1), (World.cell?_of_block (hk7 b hbp)).trans ((hx47.cells.1 b _ hbl).trans (hc k hk).2)⟩)
  have H87 := Lib.hid h7; have HXw := Lib.hid hx7
  obtain ⟨c9, -, l9⟩ := Rg.cells_of h97
  have b4 : W7.cell? ⟨p9, 4, none⟩ = some (.slice A vs.length cp) := c9 4
  clear h7 hk7 hx7 hro h97 c9 hx67 h87 c8 f8 l8 g6 g7 g8 g9 g10 e6 e7 e8 e9 e10 hl8 H86 H96 H10b H12 HV4 HR4 HX4 HX7 HN10 HN12 HN89 HW8
  have HP7 := Lib.hid (fun W (hW : Ext W7 W) => points_any vs difE 7 3 (by decide) (by decide) W (.string nilB) (.slice none 0 0) (.slice none 0 0) (.slice none 0 0) (.int .i64 0) (.int .i64 0) (.string op') (.int .i64 n1') (.int .i64 n2') (.string nm') (.slice base' len' cap') (.slice none 0 0) (.int .i64 0) (.slice none 0 0) (.int .i64 0) (.int .i64 0) (.int .i64 0) (.int .i64 0) (.int .i64 0) (.int .i64 0) (.int .i64 0) (.int .i64 0) (.int .i64 0) (.slice A vs.length cp) (HR7.out.ext hW) (HV7.out.ext hW) (by have := HVL.out; omega))
  rw [dif_val vs] at HP7
  go_upto_region 8 with (first
    | (refine wpList_load_row (hgd := rfl) 68 (.tmp 8) rfl p8 (by rfl) 68 _ _ _ H87.out Try.underlying68 rfl (by kernel_rfl) ?_)
    | (go_at_call 32; (with_reducible refine (HP7.out _ (Ext.refl _)).mono ?_); rintro e w8 ⟨rfl, hx8⟩))
  have hx9 : Ext W7 (w8.alloc (.cells #[.int .i64 4, .int .i64 1] 26)) := (by with_reducible repeat (first | exact Ext.refl _ | assumption | apply Ext.drewN | apply Ext.drew | apply Ext.alloc | (refine Ext.setCell ?_ (by simp <;> omega) _) | (refine Ext.trans ?_ (by assumption))))
  have h14 : (w8.alloc (.cells #[.int .i64 4, .int .i64 1] 26)).heap[w8.heap.size]? = some (.cells #[.int .i64 4, .int .i64 1] 26) := block_new rfl
  obtain ⟨c10, -, l10⟩ := Rg.cells_of ((hx9.block _ (Rg.lt_of_heap H107.out)).trans H107.out)
  obtain ⟨c12, -, l12⟩ := Rg.cells_of ((hx9.block _ (Rg.lt_of_heap H127.out)).trans H127.out)
  obtain ⟨c14, -, l14⟩ := Rg.cells_of h14
  have HXf := Lib.hid (HXw.out.trans hx9)
  clear h14 hx9 hx8 b4 l9 HP7
  generalize w8.alloc (.cells #[.int .i64 4, .int .i64 1] 26) = W8 at *
  generalize w8.heap.size = p14 at *
  have y0 : W8.cell? ⟨p10, 0, none⟩ = some (.int .i64 r1) := c10 0
  have y1 : W8.cell? ⟨p10, 1, none⟩ = some (.int .i64 r2) := c10 1
  have y2 : W8.cell? ⟨p12, 0, none⟩ = some (.int .i64 r1) := c12 0
  have y3 : W8.cell? ⟨p12, 1, none⟩ = some (.int .i64 r2) := c12 1
  have y4 : W8.cell? ⟨p14, 0, none⟩ = some (.int .i64 4) := c14 0
  have y5 : W8.cell? ⟨p14, 1, none⟩ = some (.int .i64 1) := c14 1
  clear c10 c12 c14
  have HNr := fun w => eql26 r1 r2 w
  have HN4 := fun w => eql26 4 1 w
  go_wp2_with (fail)
  go_ret
  exact ⟨rfl, by first | exact HXf.out | exact Ext.drew HXf.out | exact Ext.drewN HXf.out⟩
end Go.Proofs.Ytgkdeknfmmgbdaa
