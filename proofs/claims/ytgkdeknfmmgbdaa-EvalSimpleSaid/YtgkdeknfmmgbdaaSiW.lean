/-
  EvalSimple walked. Conditions: the arguments read as lists of ints, and ints of the machine.
-/
import Derived.Test.YtgkdeknfmmgbdaaVaW
import Derived.Test.YtgkdeknfmmgbdaaSiF
import Derived.Test.YtgkdeknfmmgbdaaJnI
namespace Go.Proofs.Ytgkdeknfmmgbdaa
set_option linter.unusedVariables false
set_option linter.unusedSimpArgs false
open Go.RowKit

set_option maxRecDepth 100000 in
set_option maxHeartbeats 4000000 in
theorem simple_walk (l0 l1 : List Int) (q0 q1 : Int) (b0 : -9223372036854775808 ≤ q0 ∧ q0 ≤ 9223372036854775807) (b1 : -9223372036854775808 ≤ q1 ∧ q1 ≤ 9223372036854775807) (w : World) (v0 v1 : Value) (r0 : IRd w v0 l0) (r1 : IRd w v1 l1) :
    Calls Try.prog 4 #[v0, v1, .agg #[.int .i64 q0, .int .i64 q1]] w fun e w' => e = .returned (.bool true) ∧ Ext w w' := by
  have HMA := Lib.hid (fun w' (hw : Ext w w') => Made_any l0 w' v0 (r0.ext hw))
  have HVA : Hid (∀ w', Ext w w' → Calls Try.prog 15 #[v1] w' fun e w'' => ∃ u, e = .returned u ∧ Ext w' w'' ∧ VRd All w'' (valuesE l1) u) := Lib.hid (fun w' (hw : Ext w w') => (Values_any l1 w' v1 (r1.ext hw)).mono fun _ _ ⟨u, h1, h2, h3, _⟩ => ⟨u, h1, h2, h3⟩)
  have HTP := Lib.hid (madeE_parts l0)
  have HTW := Lib.hid (madeE_two l0)
  have HB0 := Lib.hid b0; have HB1 := Lib.hid b1
  clear r0 r1 b0 b1
  generalize madeE l0 = te at *
  generalize valuesE l1 = vs at *
  go_enter Try.func4, Try.ntmps4
  have hb5 : (w.alloc (.cells #[.int .i64 q0, .int .i64 q1] 23)).heap[w.heap.size]? = some (.cells #[.int .i64 q0, .int .i64 q1] 23) := block_new rfl
  have hx5 : Ext w (w.alloc (.cells #[.int .i64 q0, .int .i64 q1] 23)) := (by with_reducible repeat (first | exact Ext.refl _ | assumption | apply Ext.drewN | apply Ext.drew | apply Ext.alloc | (refine Ext.setCell ?_ (by simp <;> omega) _) | (refine Ext.trans ?_ (by assumption))))
  have H5 := Lib.hid hb5; have HX5 := Lib.hid hx5
  clear hb5 hx5
  go_upto_region 3 with (first
    | (go_at_call 13; (with_reducible refine (sanity_any _).mono ?_); rintro e w1 ⟨rfl, hx1⟩)
    | (go_at_call 14; (with_reducible refine (HMA.out _ (by with_reducible repeat (first | exact Ext.refl _ | assumption | apply Ext.drewN | apply Ext.drew | apply Ext.alloc | (refine Ext.setCell ?_ (by simp <;> omega) _) | (refine Ext.trans ?_ (by assumption))))).mono ?_); rintro e w2 ⟨u2, rfl, hx2, hr2⟩; obtain ⟨op, m1, m2, nm, base, len, capt, hform⟩ := hr2.form; subst hform)
    | (go_at_call 15; (with_reducible refine (HVA.out _ (by with_reducible repeat (first | exact Ext.refl _ | assumption | apply Ext.drewN | apply Ext.drew | apply Ext.alloc | (refine Ext.setCell ?_ (by simp <;> omega) _) | (refine Ext.trans ?_ (by assumption))))).mono ?_); rintro e w3 ⟨u3, rfl, hx3, hv3⟩))
  have hx13 := hx1.trans (hx2.trans hx3)
  have hx34 := Ext.alloc (Ext.refl w3) (.cells #[.string op, .int .i64 m1, .int .i64 m2, .string nm, .slice base len capt] 29)
  have h8 : (w3.alloc (.cells #[.string op, .int .i64 m1, .int .i64 m2, .string nm, .slice base len capt] 29)).heap[w3.heap.size]? = some (.cells #[.string op, .int .i64 m1, .int .i64 m2, .string nm, .slice base len capt] 29) := block_new rfl
  have h5 := ((hx13.trans hx34).block _ (Rg.lt_of_heap H5.out)).trans H5.out
  have HR := Lib.hid (hr2.ext (hx3.trans hx34)); have HV := Lib.hid (hv3.ext hx34); have HX4 := Lib.hid (HX5.out.trans (hx13.trans hx34))
  clear hx13 hx34 hx1 hx2 hx3 hr2 hv3 H5 HX5 HMA HVA
  try change Code.wp _ _ _ _ (w3.alloc (.cells #[.string op, .int .i64 m1, .int .i64 m2, .string nm, .slice base len capt] 29))
  generalize w3.alloc (.cells #[.string op, .int .i64 m1, .int .i64 m2, .string nm, .slice base len capt] 29) = W4 at *
  generalize w3.heap.size = p8 at *
  obtain ⟨p5, hp5⟩ : ∃ p, p = w.heap.size := ⟨_, rfl⟩
  rw [← hp5] at h5 ⊢
  clear hp5
  refine Rp.wp_regionTE [6] [(0, .y), (1, .y), (2, .y), (6, .y), (3, .z), (4, .z)] [5] (fun _ => (.cells #[] 29, Rg.ptr)) (fun c a d v w h => by have h' : _ ∧ _ := h; exact ⟨(Rr.put_defers a d v).symm.trans h'.1, h'.2⟩) (by kernel_rfl) (by kernel_rfl) ?_
  (refine Rr.wr_y (by simp only [List.getElem?_toArray, List.getElem?_cons_succ, List.getElem?_cons_zero]; rfl) (by rfl) ?_
   apply Exists.intro
   refine ⟨fun wz hw _ => ?_, ?_⟩
   · have hcz := hw.cells.1
     exact up_row (by rfl) ((hw.block _ (Rg.lt_of_heap h8)).trans h8) Try.underlying29 (by kernel_rfl)
   simp only [Act.put, List.setIfInBounds_toArray, List.set_cons_zero, List.set_cons_succ])
  (refine Rr.wr_y (by simp only [List.getElem?_toArray, List.getElem?_cons_succ, List.getElem?_cons_zero]; rfl) (by rfl) ?_
   apply Exists.intro
   refine ⟨fun wz hw _ => ?_, ?_⟩
   · have hcz := hw.cells.1
     exact up_row (by rfl) ((hw.block _ (Rg.lt_of_heap h8)).trans h8) Try.underlying29 (by kernel_rfl)
   simp only [Act.put, List.setIfInBounds_toArray, List.set_cons_zero, List.set_cons_succ])
  refine Rr.wr_y (by simp only [List.getElem?_toArray, List.getElem?_cons_succ, List.getElem?_cons_zero]; rfl) (by rfl) ⟨.agg #[.int .i64 q0, .int .i64 q1], fun wz hw hh => ?_, ?_⟩
  · exact up_arr (by rfl) ((hw.block _ (Rg.lt_of_heap h5)).trans h5) Try.underlying23 (by kernel_rfl)
  simp only [Act.put, List.setIfInBounds_toArray, List.set_cons_zero, List.set_cons_succ]
  (refine Rr.wr_y (by simp only [List.getElem?_toArray, List.getElem?_cons_succ, List.getElem?_cons_zero]; rfl) (by rfl) ?_
   apply Exists.intro
   refine ⟨fun wz hw _ => ?_, ?_⟩
   · have hcz := hw.cells.1
     go_simp
     (with_reducible exact Rg.up_value)
   simp only [Act.put, List.setIfInBounds_toArray, List.set_cons_zero, List.set_cons_succ])
  refine Rr.wr_z (fun v w' => BentR w' v) (by simp only [List.getElem?_toArray, List.getElem?_cons_succ, List.getElem?_cons_zero]; rfl) (by rfl) (fun v w1 w2 h e => h.ext e) (fun wz hw hh => ?_) (fun u => ?_)
  · go_simp
    apply Rr.upR_enter
    (with_reducible refine (Bent_any te (by have := HTP.out; omega) HTW.out wz _ q0 q1 HB0.out HB1.out (HR.out.ext hw)).mono ?_)
    rintro e w5 ⟨u5, rfl, hx5, t', hr5, hp5⟩
    exact ⟨u5, rfl, hx5, t', hr5, by have := HTP.out; omega⟩
  simp only [Act.put, List.setIfInBounds_toArray, List.set_cons_zero, List.set_cons_succ]
  refine Rr.wr_z (fun v w' => TwoR te w' v) (by simp only [List.getElem?_toArray, List.getElem?_cons_succ, List.getElem?_cons_zero]; rfl) (by rfl) (fun v w1 w2 h e => h.ext e) (fun wz hw hh => ?_) (fun us => ?_)
  · obtain ⟨t', hr5, hp5⟩ := hold0 hh
    obtain ⟨op', n1', n2', nm', base', len', cap', hform⟩ := hr5.form
    subst hform
    go_simp
    refine ⟨Ext.alloc (Ext.refl _) _, wz.heap.size, _, _, _, _, _, _, _, _, _, _, t', rfl, block_new rfl, (HR.out.ext hw).ext (Ext.alloc (Ext.refl _) _), hr5.ext (Ext.alloc (Ext.refl _) _), hp5⟩
  simp only [Act.put, List.setIfInBounds_toArray, List.set_cons_zero, List.set_cons_succ]
  refine Rr.wr_nil ?_
  intro wy hy hh
  simp only [List.filterMap_cons, List.filterMap_nil, List.getElem?_cons_succ, List.getElem?_cons_zero]
  have hTW := hold0 hh
  clear hh h8 h5
  obtain ⟨pt, a0, a1, a2, a3, a4, c0, c1, c2, c3, c4, t', rfl, hpt, hra, hrb, hpb⟩ := hTW
  obtain ⟨oa, ia1, ia2, na, ba, la, ca, hform⟩ := hra.form
  obtain ⟨rfl, rfl, rfl, rfl, rfl⟩ := agg5_inj hform
  obtain ⟨ob, ib1, ib2, nb, bb, lb, cb, hform⟩ := hrb.form
  obtain ⟨rfl, rfl, rfl, rfl, rfl⟩ := agg5_inj hform
  have HPT := Lib.hid hpt; have HRA := Lib.hid hra; have HRB := Lib.hid hrb; have HPB := Lib.hid hpb; have HY := Lib.hid (HX4.out.trans hy); have HVy := Lib.hid (HV.out.ext hy)
  clear hpt hra hrb hpb hy HR HV HX4
  refine wpList_val rfl (.int .i64 2) (by go_simp) ?_
  simp only [Act.put, List.setIfInBounds_toArray, List.set_cons_zero, List.set_cons_succ]
  go_wp2_with (fail)
  go_loopw [28] (fun k wr => ∃ j : Nat, k = .int .i64 j ∧ j ≤ 2 ∧ Ext wy wr) (fun k _ => 2 - (intOf k).toNat)
  case atStart => exact ⟨0, rfl, by omega, Ext.refl _⟩
  case round =>
    obtain ⟨j, rfl, hj, hx⟩ := hrel
    have HX := Lib.hid hx
    obtain ⟨ct, -, lt⟩ := Rg.cells_of ((hx.block _ (Rg.lt_of_heap HPT.out)).trans HPT.out)
    clear hx
    rcases (show j = 0 ∨ j = 1 ∨ j = 2 by omega) with rfl | rfl | rfl
    · skip
      have k0 : wr.cell? ⟨pt, 0, none⟩ = some (.string oa) := ct 0
      have k1 : wr.cell? ⟨pt, 1, none⟩ = some (.int .i64 ia1) := ct 1
      have k2 : wr.cell? ⟨pt, 2, none⟩ = some (.int .i64 ia2) := ct 2
      have k3 : wr.cell? ⟨pt, 3, none⟩ = some (.string na) := ct 3
      have k4 : wr.cell? ⟨pt, 4, none⟩ = some (.slice ba la ca) := ct 4
      clear ct
      obtain ⟨hl1, hl2, hl3⟩ := simp_laws te
      have HL1 : ¬ ((te.parts : Nat) : Int) < ((simpE te).parts : Nat) := by omega
      have HL2 := Lib.hid hl2
      have HRT := Lib.hid (HRA.out.ext HX.out)
      have HE := Lib.hid (fun W (hW : Ext wr W) => eval_any All vs te W (.agg #[(.string oa), (.int .i64 ia1), (.int .i64 ia2), (.string na), (.slice ba la ca)]) u3 (HRT.out.ext hW) (HVy.out.ext (HX.out.trans hW)))
      have HES : Hid (∀ W v, Ext wr W → Rd All W (simpE te) v → Calls Try.prog 17 #[v, u3] W fun e w' => e = .returned (rev (evalI vs te)) ∧ Ext W w') := Lib.hid (fun W v (hW : Ext wr W) hv => by rw [← hl3 vs]; exact eval_any All vs (simpE te) W v u3 hv (HVy.out.ext (HX.out.trans hW)))
      have HSI := Lib.hid (fun W (hW : Ext wr W) => simplify_any All All te W (.agg #[(.string oa), (.int .i64 ia1), (.int .i64 ia2), (.string na), (.slice ba la ca)]) (HRT.out.ext hW) (fun _ => HRT.out.ext hW) (fun _ _ => trivial))
      have HRS := Lib.hid (fun W (hW : Ext wr W) => rsimp_any te (by have := HTP.out; omega) W (.agg #[(.string oa), (.int .i64 ia1), (.int .i64 ia2), (.string na), (.slice ba la ca)]) (HRT.out.ext hW))
      have HP1 := Lib.hid (fun W (hW : Ext wr W) => rparts_any te.depth te (Nat.le_refl _) (by have := HTP.out; omega) W (.agg #[(.string oa), (.int .i64 ia1), (.int .i64 ia2), (.string na), (.slice ba la ca)]) (HRT.out.ext hW))
      have HP2 : Hid (∀ W v, Rd All W (simpE te) v → Calls Try.prog 22 #[v] W fun e w' => e = .returned (.int .i64 ((simpE te).parts : Nat)) ∧ Ext W w') := Lib.hid (fun W v hv => rparts_any (simpE te).depth (simpE te) (Nat.le_refl _) (Nat.le_trans hl1 (by have := HTP.out; omega)) W v hv)
      have HSS : Hid (∀ W v, Rd All W (simpE te) v → Calls Try.prog 19 #[v] W fun e w' => ∃ v', e = .returned v' ∧ Ext W w' ∧ Rd All w' (simpE te) v') := Lib.hid (fun W v hv => by have h := simplify_any All All (simpE te) W v hv (fun _ => hv) (fun _ _ => trivial); rw [hl2] at h; exact h)
      clear hl1 hl2 hl3
      obtain ⟨⟨⟨r1, r2⟩, rf⟩, hr⟩ : ∃ y, y = evalI vs te := ⟨_, rfl⟩
      rw [← hr] at HE HES
      clear hr
      generalize simpE te = sT at *
      generalize te.parts = PT at *
      generalize sT.parts = PS at *
      rw [show ((0 : Nat) : Int) = 0 from rfl]
      go_upto_region 6 with (fail)
      have hxa : Ext wr (wr.alloc (.cells #[(.string oa), (.int .i64 ia1), (.int .i64 ia2), (.string na), (.slice ba la ca)] 29)) := (by with_reducible repeat (first | exact Ext.refl _ | assumption | apply Ext.drewN | apply Ext.drew | apply Ext.alloc | (refine Ext.setCell ?_ (by simp <;> omega) _) | (refine Ext.trans ?_ (by assumption))))
      have h11 : (wr.alloc (.cells #[(.string oa), (.int .i64 ia1), (.int .i64 ia2), (.string na), (.slice ba la ca)] 29)).heap[wr.heap.size]? = some (.cells #[(.string oa), (.int .i64 ia1), (.int .i64 ia2), (.string na), (.slice ba la ca)] 29) := block_new rfl
      have H11 := Lib.hid h11; have HXA := Lib.hid hxa
      obtain ⟨c11, -, l11⟩ := Rg.cells_of h11
      clear k0 k1 k2 k3 k4 lt hxa h11
      try change Code.wp _ _ _ _ (wr.alloc (.cells #[(.string oa), (.int .i64 ia1), (.int .i64 ia2), (.string na), (.slice ba la ca)] 29))
      generalize wr.alloc (.cells #[(.string oa), (.int .i64 ia1), (.int .i64 ia2), (.string na), (.slice ba la ca)] 29) = W5 at *
      generalize wr.heap.size = p11 at *
      have k0 : W5.cell? ⟨p11, 0, none⟩ = some (.string oa) := c11 0
      have k1 : W5.cell? ⟨p11, 1, none⟩ = some (.int .i64 ia1) := c11 1
      have k2 : W5.cell? ⟨p11, 2, none⟩ = some (.int .i64 ia2) := c11 2
      have k3 : W5.cell? ⟨p11, 3, none⟩ = some (.string na) := c11 3
      have k4 : W5.cell? ⟨p11, 4, none⟩ = some (.slice ba la ca) := c11 4
      clear c11
      go_upto_region 7 with (go_at_call 19; (with_reducible refine (HSI.out _ HXA.out).mono ?_); rintro e w6 ⟨u6, rfl, hx6, hr6⟩; obtain ⟨os, s1, s2, ns, bs, ls, cs, hform⟩ := hr6.form; subst hform)
      have h12 : (w6.alloc (.cells #[.string os, .int .i64 s1, .int .i64 s2, .string ns, .slice bs ls cs] 29)).heap[w6.heap.size]? = some (.cells #[.string os, .int .i64 s1, .int .i64 s2, .string ns, .slice bs ls cs] 29) := block_new rfl
      have hx67 := Ext.alloc hx6 (.cells #[.string os, .int .i64 s1, .int .i64 s2, .string ns, .slice bs ls cs] 29)
      have HR7 := Lib.hid (hr6.ext (Ext.alloc (Ext.refl w6) (.cells #[.string os, .int .i64 s1, .int .i64 s2, .string ns, .slice bs ls cs] 29)))
      have H12 := Lib.hid h12
      have H117 := Lib.hid ((hx67.block _ (Rg.lt_of_heap H11.out)).trans H11.out)
      have HX7 := Lib.hid (HXA.out.trans hx67)
      clear k0 k1 k2 k3 k4 h12 hx67 hx6 hr6 l11 HSI
      try change Code.wp _ _ _ _ (w6.alloc (.cells #[.string os, .int .i64 s1, .int .i64 s2, .string ns, .slice bs ls cs] 29))
      generalize w6.alloc (.cells #[.string os, .int .i64 s1, .int .i64 s2, .string ns, .slice bs ls cs] 29) = W7 at *
      generalize w6.heap.size = p12 at *
      obtain ⟨c11, -, l11⟩ := Rg.cells_of H117.out
      have k0 : W7.cell? ⟨p11, 0, none⟩ = some (.string oa) := c11 0
      have k1 : W7.cell? ⟨p11, 1, none⟩ = some (.int .i64 ia1) := c11 1
      have k2 : W7.cell? ⟨p11, 2, none⟩ = some (.int .i64 ia2) := c11 2
      have k3 : W7.cell? ⟨p11, 3, none⟩ = some (.string na) := c11 3
      have k4 : W7.cell? ⟨p11, 4, none⟩ = some (.slice ba la ca) := c11 4
      clear c11
      go_upto_region 8 with (go_at_call 17; (with_reducible refine (HE.out _ HX7.out).mono ?_); rintro e w8 ⟨rfl, hx8⟩)
      have h13 : (w8.alloc (.cells #[.int .i64 r1, .int .i64 r2] 26)).heap[w8.heap.size]? = some (.cells #[.int .i64 r1, .int .i64 r2] 26) := block_new rfl
      have hx89 := Ext.alloc hx8 (.cells #[.int .i64 r1, .int .i64 r2] 26)
      have H13 := Lib.hid h13
      have H119 := Lib.hid ((hx89.block _ (Rg.lt_of_heap H117.out)).trans H117.out)
      have H129 := Lib.hid ((hx89.block _ (Rg.lt_of_heap H12.out)).trans H12.out)
      have HR9 := Lib.hid (HR7.out.ext hx89)
      have HX9 := Lib.hid (HX7.out.trans hx89)
      clear k0 k1 k2 k3 k4 h13 hx89 hx8 l11 HE H117 H12 HR7 HX7
      try change Code.wp _ _ _ _ (w8.alloc (.cells #[.int .i64 r1, .int .i64 r2] 26))
      generalize w8.alloc (.cells #[.int .i64 r1, .int .i64 r2] 26) = W9 at *
      generalize w8.heap.size = p13 at *
      obtain ⟨c12, -, l12⟩ := Rg.cells_of H129.out
      have k0 : W9.cell? ⟨p12, 0, none⟩ = some (.string os) := c12 0
      have k1 : W9.cell? ⟨p12, 1, none⟩ = some (.int .i64 s1) := c12 1
      have k2 : W9.cell? ⟨p12, 2, none⟩ = some (.int .i64 s2) := c12 2
      have k3 : W9.cell? ⟨p12, 3, none⟩ = some (.string ns) := c12 3
      have k4 : W9.cell? ⟨p12, 4, none⟩ = some (.slice bs ls cs) := c12 4
      clear c12
      go_upto_region 9 with (go_at_call 17; (with_reducible refine (HES.out _ _ HX9.out HR9.out).mono ?_); rintro e w10 ⟨rfl, hx10⟩)
      have h15 : (w10.alloc (.cells #[.int .i64 r1, .int .i64 r2] 26)).heap[w10.heap.size]? = some (.cells #[.int .i64 r1, .int .i64 r2] 26) := block_new rfl
      have hx11 := Ext.alloc hx10 (.cells #[.int .i64 r1, .int .i64 r2] 26)
      have h13 := (hx11.block _ (Rg.lt_of_heap H13.out)).trans H13.out
      have h11 := (hx11.block _ (Rg.lt_of_heap H119.out)).trans H119.out
      have h12 := (hx11.block _ (Rg.lt_of_heap H129.out)).trans H129.out
      have HR11 := Lib.hid (HR9.out.ext hx11)
      have HX11 := Lib.hid (HX9.out.trans hx11)
      clear k0 k1 k2 k3 k4 hx11 hx10 l12 HES H119 H129 HR9 HX9 H13
      try change Code.wp _ _ _ _ (w10.alloc (.cells #[.int .i64 r1, .int .i64 r2] 26))
      generalize w10.alloc (.cells #[.int .i64 r1, .int .i64 r2] 26) = W11 at *
      generalize w10.heap.size = p15 at *
      have HN := fun w => neq26 r1 r2 w
      refine Rr.wp_region [(0, .y), (1, .y), (2, .z), (3, .y), (4, .y), (5, .y), (6, .y), (7, .y), (8, .y), (9, .y), (10, .y), (11, .y), (12, .y), (13, .y), (14, .y), (15, .y), (16, .y), (17, .y), (18, .y), (19, .y), (20, .y), (21, .y), (22, .y), (23, .y), (25, .y), (24, .z), (26, .y), (27, .y)] (fun _ => (.cells #[] 29, Rg.ptr)) (by kernel_rfl) (by kernel_rfl) ?_
      (refine Rr.wr_y (by simp only [List.getElem?_toArray, List.getElem?_cons_succ, List.getElem?_cons_zero]; rfl) (by rfl) ?_
       apply Exists.intro
       refine ⟨fun wz hw _ => ?_, ?_⟩
       · have hcz := hw.cells.1
         exact up_row (by rfl) ((hw.block _ (Rg.lt_of_heap h12)).trans h12) Try.underlying29 (by kernel_rfl)
       simp only [Act.put, List.setIfInBounds_toArray, List.set_cons_zero, List.set_cons_succ])
      (refine Rr.wr_y (by simp only [List.getElem?_toArray, List.getElem?_cons_succ, List.getElem?_cons_zero]; rfl) (by rfl) ?_
       apply Exists.intro
       refine ⟨fun wz hw _ => ?_, ?_⟩
       · have hcz := hw.cells.1
         exact up_row (by rfl) ((hw.block _ (Rg.lt_of_heap h11)).trans h11) Try.underlying29 (by kernel_rfl)
       simp only [Act.put, List.setIfInBounds_toArray, List.set_cons_zero, List.set_cons_succ])
      refine Rr.wr_z (fun v w' => Rd All w' sT v) (by simp only [List.getElem?_toArray, List.getElem?_cons_succ, List.getElem?_cons_zero]; rfl) (by rfl) (fun v w1 w2 h e => by first | exact Rd.ext e h | exact h.ext e) (fun wz hw hh => ?_) (fun u => ?_)
      · have hcz := hw.cells.1
        go_simp
        apply Rr.upR_enter
        (with_reducible refine (HRS.out wz (HX11.out.trans hw)).mono ?_)
        rintro e w3 ⟨v3, rfl, hx3, hr3⟩
        exact ⟨v3, rfl, hx3, hr3⟩
      simp only [Act.put, List.setIfInBounds_toArray, List.set_cons_zero, List.set_cons_succ]
      refine Rr.wr_y (by simp only [List.getElem?_toArray, List.getElem?_cons_succ, List.getElem?_cons_zero]; rfl) (by rfl) ⟨.bool true, fun wz hw hh => ?_, ?_⟩
      · go_simp
        apply Rg.up_enter
        (with_reducible refine (same_any All All sT.depth sT (Nat.le_refl _) _ _ _ (HR11.out.ext hw) (hold0 hh)).mono ?_)
        rintro e w3 ⟨rfl, hb3⟩
        exact ⟨rfl, hb3⟩
      simp only [Act.put, List.setIfInBounds_toArray, List.set_cons_zero, List.set_cons_succ]
      (refine Rr.wr_y (by simp only [List.getElem?_toArray, List.getElem?_cons_succ, List.getElem?_cons_zero]; rfl) (by rfl) ?_
       apply Exists.intro
       refine ⟨fun wz hw _ => ?_, ?_⟩
       · have hcz := hw.cells.1
         go_simp
         (with_reducible exact Rg.up_value)
       simp only [Act.put, List.setIfInBounds_toArray, List.set_cons_zero, List.set_cons_succ])
      (refine Rr.wr_y (by simp only [List.getElem?_toArray, List.getElem?_cons_succ, List.getElem?_cons_zero]; rfl) (by rfl) ?_
       apply Exists.intro
       refine ⟨fun wz hw _ => ?_, ?_⟩
       · have hcz := hw.cells.1
         go_simp
         (with_reducible exact Rg.up_value)
       simp only [Act.put, List.setIfInBounds_toArray, List.set_cons_zero, List.set_cons_succ])
      (refine Rr.wr_y (by simp only [List.getElem?_toArray, List.getElem?_cons_succ, List.getElem?_cons_zero]; rfl) (by rfl) ?_
       apply Exists.intro
       refine ⟨fun wz hw _ => ?_, ?_⟩
       · have hcz := hw.cells.1
         exact up_row (by rfl) ((hw.block _ (Rg.lt_of_heap h13)).trans h13) Try.underlying26 (by kernel_rfl)
       simp only [Act.put, List.setIfInBounds_toArray, List.set_cons_zero, List.set_cons_succ])
      (refine Rr.wr_y (by simp only [List.getElem?_toArray, List.getElem?_cons_succ, List.getElem?_cons_zero]; rfl) (by rfl) ?_
       apply Exists.intro
       refine ⟨fun wz hw _ => ?_, ?_⟩
       · have hcz := hw.cells.1
         exact up_row (by rfl) ((hw.block _ (Rg.lt_of_heap h15)).trans h15) Try.underlying26 (by kernel_rfl)
       simp only [Act.put, List.setIfInBounds_toArray, List.set_cons_zero, List.set_cons_succ])
      (refine Rr.wr_y (by simp only [List.getElem?_toArray, List.getElem?_cons_succ, List.getElem?_cons_zero]; rfl) (by rfl) ?_
       apply Exists.intro
       refine ⟨fun wz hw _ => ?_, ?_⟩
       · have hcz := hw.cells.1
         go_simp
         (with_reducible exact Rg.up_value)
       simp only [Act.put, List.setIfInBounds_toArray, List.set_cons_zero, List.set_cons_succ])
      (refine Rr.wr_y (by simp only [List.getElem?_toArray, List.getElem?_cons_succ, List.getElem?_cons_zero]; rfl) (by rfl) ?_
       apply Exists.intro
       refine ⟨fun wz hw _ => ?_, ?_⟩
       · have hcz := hw.cells.1
         go_simp
         (with_reducible exact Rg.up_value)
       simp only [Act.put, List.setIfInBounds_toArray, List.set_cons_zero, List.set_cons_succ])
      (refine Rr.wr_y (by simp only [List.getElem?_toArray, List.getElem?_cons_succ, List.getElem?_cons_zero]; rfl) (by rfl) ?_
       apply Exists.intro
       refine ⟨fun wz hw _ => ?_, ?_⟩
       · have hcz := hw.cells.1
         go_simp
         (with_reducible exact Rg.up_value)
       simp only [Act.put, List.setIfInBounds_toArray, List.set_cons_zero, List.set_cons_succ])
      (refine Rr.wr_y (by simp only [List.getElem?_toArray, List.getElem?_cons_succ, List.getElem?_cons_zero]; rfl) (by rfl) ?_
       apply Exists.intro
       refine ⟨fun wz hw _ => ?_, ?_⟩
       · have hcz := hw.cells.1
         go_simp
         (with_reducible exact Rg.up_value)
       simp only [Act.put, List.setIfInBounds_toArray, List.set_cons_zero, List.set_cons_succ])
      (refine Rr.wr_y (by simp only [List.getElem?_toArray, List.getElem?_cons_succ, List.getElem?_cons_zero]; rfl) (by rfl) ?_
       apply Exists.intro
       refine ⟨fun wz hw _ => ?_, ?_⟩
       · have hcz := hw.cells.1
         go_simp
         (with_reducible exact Rg.up_value)
       simp only [Act.put, List.setIfInBounds_toArray, List.set_cons_zero, List.set_cons_succ])
      (refine Rr.wr_y (by simp only [List.getElem?_toArray, List.getElem?_cons_succ, List.getElem?_cons_zero]; rfl) (by rfl) ?_
       apply Exists.intro
       refine ⟨fun wz hw _ => ?_, ?_⟩
       · have hcz := hw.cells.1
         go_simp
         (with_reducible exact Rg.up_value)
       simp only [Act.put, List.setIfInBounds_toArray, List.set_cons_zero, List.set_cons_succ])
      (refine Rr.wr_y (by simp only [List.getElem?_toArray, List.getElem?_cons_succ, List.getElem?_cons_zero]; rfl) (by rfl) ?_
       apply Exists.intro
       refine ⟨fun wz hw _ => ?_, ?_⟩
       · have hcz := hw.cells.1
         go_simp
         (with_reducible exact Rg.up_value)
       simp only [Act.put, List.setIfInBounds_toArray, List.set_cons_zero, List.set_cons_succ])
      (refine Rr.wr_y (by simp only [List.getElem?_toArray, List.getElem?_cons_succ, List.getElem?_cons_zero]; rfl) (by rfl) ?_
       apply Exists.intro
       refine ⟨fun wz hw _ => ?_, ?_⟩
       · have hcz := hw.cells.1
         go_simp
         (with_reducible exact Rg.up_value)
       simp only [Act.put, List.setIfInBounds_toArray, List.set_cons_zero, List.set_cons_succ])
      (refine Rr.wr_y (by simp only [List.getElem?_toArray, List.getElem?_cons_succ, List.getElem?_cons_zero]; rfl) (by rfl) ?_
       apply Exists.intro
       refine ⟨fun wz hw _ => ?_, ?_⟩
       · have hcz := hw.cells.1
         exact up_row (by rfl) ((hw.block _ (Rg.lt_of_heap h12)).trans h12) Try.underlying29 (by kernel_rfl)
       simp only [Act.put, List.setIfInBounds_toArray, List.set_cons_zero, List.set_cons_succ])
      (refine Rr.wr_y (by simp only [List.getElem?_toArray, List.getElem?_cons_succ, List.getElem?_cons_zero]; rfl) (by rfl) ?_
       apply Exists.intro
       refine ⟨fun wz hw _ => ?_, ?_⟩
       · have hcz := hw.cells.1
         go_simp
         apply Rg.up_enter
         (with_reducible refine (HP2.out _ _ (HR11.out.ext hw)).mono ?_)
         rintro e w3 ⟨rfl, hb3⟩
         exact ⟨rfl, hb3⟩
       simp only [Act.put, List.setIfInBounds_toArray, List.set_cons_zero, List.set_cons_succ])
      (refine Rr.wr_y (by simp only [List.getElem?_toArray, List.getElem?_cons_succ, List.getElem?_cons_zero]; rfl) (by rfl) ?_
       apply Exists.intro
       refine ⟨fun wz hw _ => ?_, ?_⟩
       · have hcz := hw.cells.1
         exact up_row (by rfl) ((hw.block _ (Rg.lt_of_heap h11)).trans h11) Try.underlying29 (by kernel_rfl)
       simp only [Act.put, List.setIfInBounds_toArray, List.set_cons_zero, List.set_cons_succ])
      (refine Rr.wr_y (by simp only [List.getElem?_toArray, List.getElem?_cons_succ, List.getElem?_cons_zero]; rfl) (by rfl) ?_
       apply Exists.intro
       refine ⟨fun wz hw _ => ?_, ?_⟩
       · have hcz := hw.cells.1
         go_simp
         apply Rg.up_enter
         (with_reducible refine (HP1.out _ (HX11.out.trans hw)).mono ?_)
         rintro e w3 ⟨rfl, hb3⟩
         exact ⟨rfl, hb3⟩
       simp only [Act.put, List.setIfInBounds_toArray, List.set_cons_zero, List.set_cons_succ])
      refine Rr.wr_y (by simp only [List.getElem?_toArray, List.getElem?_cons_succ, List.getElem?_cons_zero]; rfl) (by rfl) ⟨.bool false, fun wz hw hh => ?_, ?_⟩
      · have hl : decide (((PT : Nat) : Int) < ((PS : Nat) : Int)) = false := decide_eq_false (by omega)
        go_simp
        first
          | (with_reducible exact Rg.up_value)
          | (rw [hl]; with_reducible exact Rg.up_value)
          | (rw [show decide (PT < PS) = false from decide_eq_false (by omega)]; exact Rg.up_value)
      simp only [Act.put, List.setIfInBounds_toArray, List.set_cons_zero, List.set_cons_succ]
      (refine Rr.wr_y (by simp only [List.getElem?_toArray, List.getElem?_cons_succ, List.getElem?_cons_zero]; rfl) (by rfl) ?_
       apply Exists.intro
       refine ⟨fun wz hw _ => ?_, ?_⟩
       · have hcz := hw.cells.1
         go_simp
         (with_reducible exact Rg.up_value)
       simp only [Act.put, List.setIfInBounds_toArray, List.set_cons_zero, List.set_cons_succ])
      (refine Rr.wr_y (by simp only [List.getElem?_toArray, List.getElem?_cons_succ, List.getElem?_cons_zero]; rfl) (by rfl) ?_
       apply Exists.intro
       refine ⟨fun wz hw _ => ?_, ?_⟩
       · have hcz := hw.cells.1
         go_simp
         (with_reducible exact Rg.up_value)
       simp only [Act.put, List.setIfInBounds_toArray, List.set_cons_zero, List.set_cons_succ])
      (refine Rr.wr_y (by simp only [List.getElem?_toArray, List.getElem?_cons_succ, List.getElem?_cons_zero]; rfl) (by rfl) ?_
       apply Exists.intro
       refine ⟨fun wz hw _ => ?_, ?_⟩
       · have hcz := hw.cells.1
         exact up_row (by rfl) ((hw.block _ (Rg.lt_of_heap h12)).trans h12) Try.underlying29 (by kernel_rfl)
       simp only [Act.put, List.setIfInBounds_toArray, List.set_cons_zero, List.set_cons_succ])
      (refine Rr.wr_y (by simp only [List.getElem?_toArray, List.getElem?_cons_succ, List.getElem?_cons_zero]; rfl) (by rfl) ?_
       apply Exists.intro
       refine ⟨fun wz hw _ => ?_, ?_⟩
       · have hcz := hw.cells.1
         exact up_row (by rfl) ((hw.block _ (Rg.lt_of_heap h12)).trans h12) Try.underlying29 (by kernel_rfl)
       simp only [Act.put, List.setIfInBounds_toArray, List.set_cons_zero, List.set_cons_succ])
      refine Rr.wr_z (fun v w' => Rd All w' sT v) (by simp only [List.getElem?_toArray, List.getElem?_cons_succ, List.getElem?_cons_zero]; rfl) (by rfl) (fun v w1 w2 h e => by first | exact Rd.ext e h | exact h.ext e) (fun wz hw hh => ?_) (fun u => ?_)
      · have hcz := hw.cells.1
        go_simp
        apply Rr.upR_enter
        (with_reducible refine (HSS.out wz _ (HR11.out.ext hw)).mono ?_)
        rintro e w3 ⟨v3, rfl, hx3, hr3⟩
        exact ⟨v3, rfl, hx3, hr3⟩
      simp only [Act.put, List.setIfInBounds_toArray, List.set_cons_zero, List.set_cons_succ]
      refine Rr.wr_y (by simp only [List.getElem?_toArray, List.getElem?_cons_succ, List.getElem?_cons_zero]; rfl) (by rfl) ⟨.bool true, fun wz hw hh => ?_, ?_⟩
      · go_simp
        apply Rg.up_enter
        (with_reducible refine (same_any All All sT.depth sT (Nat.le_refl _) _ _ _ (hold0 hh) (HR11.out.ext hw)).mono ?_)
        rintro e w3 ⟨rfl, hb3⟩
        exact ⟨rfl, hb3⟩
      simp only [Act.put, List.setIfInBounds_toArray, List.set_cons_zero, List.set_cons_succ]
      (refine Rr.wr_y (by simp only [List.getElem?_toArray, List.getElem?_cons_succ, List.getElem?_cons_zero]; rfl) (by rfl) ?_
       apply Exists.intro
       refine ⟨fun wz hw _ => ?_, ?_⟩
       · have hcz := hw.cells.1
         go_simp
         (with_reducible exact Rg.up_value)
       simp only [Act.put, List.setIfInBounds_toArray, List.set_cons_zero, List.set_cons_succ])
      refine Rr.wr_nil ?_
      intro wz hz hh
      simp only [List.length_cons, List.length_nil, List.drop_succ_cons, List.drop_zero, Nat.reduceAdd]
      have HZ := Lib.hid (HX.out.trans (HX11.out.trans hz))
      clear hh h11 h12 h13 h15 hz
      go_wp2_with (fail)
      go_roundw
      case rel => exact ⟨0 + 1, by go_num, by omega, by first | exact HZ.out | exact Ext.drew HZ.out | exact Ext.drewN HZ.out⟩
      case measure => simp [intOf]
    · skip
      have k0 : wr.cell? ⟨pt, 5, none⟩ = some (.string ob) := ct 5
      have k1 : wr.cell? ⟨pt, 6, none⟩ = some (.int .i64 ib1) := ct 6
      have k2 : wr.cell? ⟨pt, 7, none⟩ = some (.int .i64 ib2) := ct 7
      have k3 : wr.cell? ⟨pt, 8, none⟩ = some (.string nb) := ct 8
      have k4 : wr.cell? ⟨pt, 9, none⟩ = some (.slice bb lb cb) := ct 9
      clear ct
      obtain ⟨hl1, hl2, hl3⟩ := simp_laws t'
      have HL1 : ¬ ((t'.parts : Nat) : Int) < ((simpE t').parts : Nat) := by omega
      have HL2 := Lib.hid hl2
      have HRT := Lib.hid (HRB.out.ext HX.out)
      have HE := Lib.hid (fun W (hW : Ext wr W) => eval_any All vs t' W (.agg #[(.string ob), (.int .i64 ib1), (.int .i64 ib2), (.string nb), (.slice bb lb cb)]) u3 (HRT.out.ext hW) (HVy.out.ext (HX.out.trans hW)))
      have HES : Hid (∀ W v, Ext wr W → Rd All W (simpE t') v → Calls Try.prog 17 #[v, u3] W fun e w' => e = .returned (rev (evalI vs t')) ∧ Ext W w') := Lib.hid (fun W v (hW : Ext wr W) hv => by rw [← hl3 vs]; exact eval_any All vs (simpE t') W v u3 hv (HVy.out.ext (HX.out.trans hW)))
      have HSI := Lib.hid (fun W (hW : Ext wr W) => simplify_any All All t' W (.agg #[(.string ob), (.int .i64 ib1), (.int .i64 ib2), (.string nb), (.slice bb lb cb)]) (HRT.out.ext hW) (fun _ => HRT.out.ext hW) (fun _ _ => trivial))
      have HRS := Lib.hid (fun W (hW : Ext wr W) => rsimp_any t' (by have := HPB.out; omega) W (.agg #[(.string ob), (.int .i64 ib1), (.int .i64 ib2), (.string nb), (.slice bb lb cb)]) (HRT.out.ext hW))
      have HP1 := Lib.hid (fun W (hW : Ext wr W) => rparts_any t'.depth t' (Nat.le_refl _) (by have := HPB.out; omega) W (.agg #[(.string ob), (.int .i64 ib1), (.int .i64 ib2), (.string nb), (.slice bb lb cb)]) (HRT.out.ext hW))
      have HP2 : Hid (∀ W v, Rd All W (simpE t') v → Calls Try.prog 22 #[v] W fun e w' => e = .returned (.int .i64 ((simpE t').parts : Nat)) ∧ Ext W w') := Lib.hid (fun W v hv => rparts_any (simpE t').depth (simpE t') (Nat.le_refl _) (Nat.le_trans hl1 (by have := HPB.out; omega)) W v hv)
      have HSS : Hid (∀ W v, Rd All W (simpE t') v → Calls Try.prog 19 #[v] W fun e w' => ∃ v', e = .returned v' ∧ Ext W w' ∧ Rd All w' (simpE t') v') := Lib.hid (fun W v hv => by have h := simplify_any All All (simpE t') W v hv (fun _ => hv) (fun _ _ => trivial); rw [hl2] at h; exact h)
      clear hl1 hl2 hl3
      obtain ⟨⟨⟨r1, r2⟩, rf⟩, hr⟩ : ∃ y, y = evalI vs t' := ⟨_, rfl⟩
      rw [← hr] at HE HES
      clear hr
      generalize simpE t' = sT at *
      generalize t'.parts = PT at *
      generalize sT.parts = PS at *
      rw [show ((1 : Nat) : Int) = 1 from rfl]
      go_upto_region 6 with (fail)
      have hxa : Ext wr (wr.alloc (.cells #[(.string ob), (.int .i64 ib1), (.int .i64 ib2), (.string nb), (.slice bb lb cb)] 29)) := (by with_reducible repeat (first | exact Ext.refl _ | assumption | apply Ext.drewN | apply Ext.drew | apply Ext.alloc | (refine Ext.setCell ?_ (by simp <;> omega) _) | (refine Ext.trans ?_ (by assumption))))
      have h11 : (wr.alloc (.cells #[(.string ob), (.int .i64 ib1), (.int .i64 ib2), (.string nb), (.slice bb lb cb)] 29)).heap[wr.heap.size]? = some (.cells #[(.string ob), (.int .i64 ib1), (.int .i64 ib2), (.string nb), (.slice bb lb cb)] 29) := block_new rfl
      have H11 := Lib.hid h11; have HXA := Lib.hid hxa
      obtain ⟨c11, -, l11⟩ := Rg.cells_of h11
      clear k0 k1 k2 k3 k4 lt hxa h11
      try change Code.wp _ _ _ _ (wr.alloc (.cells #[(.string ob), (.int .i64 ib1), (.int .i64 ib2), (.string nb), (.slice bb lb cb)] 29))
      generalize wr.alloc (.cells #[(.string ob), (.int .i64 ib1), (.int .i64 ib2), (.string nb), (.slice bb lb cb)] 29) = W5 at *
      generalize wr.heap.size = p11 at *
      have k0 : W5.cell? ⟨p11, 0, none⟩ = some (.string ob) := c11 0
      have k1 : W5.cell? ⟨p11, 1, none⟩ = some (.int .i64 ib1) := c11 1
      have k2 : W5.cell? ⟨p11, 2, none⟩ = some (.int .i64 ib2) := c11 2
      have k3 : W5.cell? ⟨p11, 3, none⟩ = some (.string nb) := c11 3
      have k4 : W5.cell? ⟨p11, 4, none⟩ = some (.slice bb lb cb) := c11 4
      clear c11
      go_upto_region 7 with (go_at_call 19; (with_reducible refine (HSI.out _ HXA.out).mono ?_); rintro e w6 ⟨u6, rfl, hx6, hr6⟩; obtain ⟨os, s1, s2, ns, bs, ls, cs, hform⟩ := hr6.form; subst hform)
      have h12 : (w6.alloc (.cells #[.string os, .int .i64 s1, .int .i64 s2, .string ns, .slice bs ls cs] 29)).heap[w6.heap.size]? = some (.cells #[.string os, .int .i64 s1, .int .i64 s2, .string ns, .slice bs ls cs] 29) := block_new rfl
      have hx67 := Ext.alloc hx6 (.cells #[.string os, .int .i64 s1, .int .i64 s2, .string ns, .slice bs ls cs] 29)
      have HR7 := Lib.hid (hr6.ext (Ext.alloc (Ext.refl w6) (.cells #[.string os, .int .i64 s1, .int .i64 s2, .string ns, .slice bs ls cs] 29)))
      have H12 := Lib.hid h12
      have H117 := Lib.hid ((hx67.block _ (Rg.lt_of_heap H11.out)).trans H11.out)
      have HX7 := Lib.hid (HXA.out.trans hx67)
      clear k0 k1 k2 k3 k4 h12 hx67 hx6 hr6 l11 HSI
      try change Code.wp _ _ _ _ (w6.alloc (.cells #[.string os, .int .i64 s1, .int .i64 s2, .string ns, .slice bs ls cs] 29))
      generalize w6.alloc (.cells #[.string os, .int .i64 s1, .int .i64 s2, .string ns, .slice bs ls cs] 29) = W7 at *
      generalize w6.heap.size = p12 at *
      obtain ⟨c11, -, l11⟩ := Rg.cells_of H117.out
      have k0 : W7.cell? ⟨p11, 0, none⟩ = some (.string ob) := c11 0
      have k1 : W7.cell? ⟨p11, 1, none⟩ = some (.int .i64 ib1) := c11 1
      have k2 : W7.cell? ⟨p11, 2, none⟩ = some (.int .i64 ib2) := c11 2
      have k3 : W7.cell? ⟨p11, 3, none⟩ = some (.string nb) := c11 3
      have k4 : W7.cell? ⟨p11, 4, none⟩ = some (.slice bb lb cb) := c11 4
      clear c11
      go_upto_region 8 with (go_at_call 17; (with_reducible refine (HE.out _ HX7.out).mono ?_); rintro e w8 ⟨rfl, hx8⟩)
      have h13 : (w8.alloc (.cells #[.int .i64 r1, .int .i64 r2] 26)).heap[w8.heap.size]? = some (.cells #[.int .i64 r1, .int .i64 r2] 26) := block_new rfl
      have hx89 := Ext.alloc hx8 (.cells #[.int .i64 r1, .int .i64 r2] 26)
      have H13 := Lib.hid h13
      have H119 := Lib.hid ((hx89.block _ (Rg.lt_of_heap H117.out)).trans H117.out)
      have H129 := Lib.hid ((hx89.block _ (Rg.lt_of_heap H12.out)).trans H12.out)
      have HR9 := Lib.hid (HR7.out.ext hx89)
      have HX9 := Lib.hid (HX7.out.trans hx89)
      clear k0 k1 k2 k3 k4 h13 hx89 hx8 l11 HE H117 H12 HR7 HX7
      try change Code.wp _ _ _ _ (w8.alloc (.cells #[.int .i64 r1, .int .i64 r2] 26))
      generalize w8.alloc (.cells #[.int .i64 r1, .int .i64 r2] 26) = W9 at *
      generalize w8.heap.size = p13 at *
      obtain ⟨c12, -, l12⟩ := Rg.cells_of H129.out
      have k0 : W9.cell? ⟨p12, 0, none⟩ = some (.string os) := c12 0
      have k1 : W9.cell? ⟨p12, 1, none⟩ = some (.int .i64 s1) := c12 1
      have k2 : W9.cell? ⟨p12, 2, none⟩ = some (.int .i64 s2) := c12 2
      have k3 : W9.cell? ⟨p12, 3, none⟩ = some (.string ns) := c12 3
      have k4 : W9.cell? ⟨p12, 4, none⟩ = some (.slice bs ls cs) := c12 4
      clear c12
      go_upto_region 9 with (go_at_call 17; (with_reducible refine (HES.out _ _ HX9.out HR9.out).mono ?_); rintro e w10 ⟨rfl, hx10⟩)
      have h15 : (w10.alloc (.cells #[.int .i64 r1, .int .i64 r2] 26)).heap[w10.heap.size]? = some (.cells #[.int .i64 r1, .int .i64 r2] 26) := block_new rfl
      have hx11 := Ext.alloc hx10 (.cells #[.int .i64 r1, .int .i64 r2] 26)
      have h13 := (hx11.block _ (Rg.lt_of_heap H13.out)).trans H13.out
      have h11 := (hx11.block _ (Rg.lt_of_heap H119.out)).trans H119.out
      have h12 := (hx11.block _ (Rg.lt_of_heap H129.out)).trans H129.out
      have HR11 := Lib.hid (HR9.out.ext hx11)
      have HX11 := Lib.hid (HX9.out.trans hx11)
      clear k0 k1 k2 k3 k4 hx11 hx10 l12 HES H119 H129 HR9 HX9 H13
      try change Code.wp _ _ _ _ (w10.alloc (.cells #[.int .i64 r1, .int .i64 r2] 26))
      generalize w10.alloc (.cells #[.int .i64 r1, .int .i64 r2] 26) = W11 at *
      generalize w10.heap.size = p15 at *
      have HN := fun w => neq26 r1 r2 w
      refine Rr.wp_region [(0, .y), (1, .y), (2, .z), (3, .y), (4, .y), (5, .y), (6, .y), (7, .y), (8, .y), (9, .y), (10, .y), (11, .y), (12, .y), (13, .y), (14, .y), (15, .y), (16, .y), (17, .y), (18, .y), (19, .y), (20, .y), (21, .y), (22, .y), (23, .y), (25, .y), (24, .z), (26, .y), (27, .y)] (fun _ => (.cells #[] 29, Rg.ptr)) (by kernel_rfl) (by kernel_rfl) ?_
      (refine Rr.wr_y (by simp only [List.getElem?_toArray, List.getElem?_cons_succ, List.getElem?_cons_zero]; rfl) (by rfl) ?_
       apply Exists.intro
       refine ⟨fun wz hw _ => ?_, ?_⟩
       · have hcz := hw.cells.1
         exact up_row (by rfl) ((hw.block _ (Rg.lt_of_heap h12)).trans h12) Try.underlying29 (by kernel_rfl)
       simp only [Act.put, List.setIfInBounds_toArray, List.set_cons_zero, List.set_cons_succ])
      (refine Rr.wr_y (by simp only [List.getElem?_toArray, List.getElem?_cons_succ, List.getElem?_cons_zero]; rfl) (by rfl) ?_
       apply Exists.intro
       refine ⟨fun wz hw _ => ?_, ?_⟩
       · have hcz := hw.cells.1
         exact up_row (by rfl) ((hw.block _ (Rg.lt_of_heap h11)).trans h11) Try.underlying29 (by kernel_rfl)
       simp only [Act.put, List.setIfInBounds_toArray, List.set_cons_zero, List.set_cons_succ])
      refine Rr.wr_z (fun v w' => Rd All w' sT v) (by simp only [List.getElem?_toArray, List.getElem?_cons_succ, List.getElem?_cons_zero]; rfl) (by rfl) (fun v w1 w2 h e => by first | exact Rd.ext e h | exact h.ext e) (fun wz hw hh => ?_) (fun u => ?_)
      · have hcz := hw.cells.1
        go_simp
        apply Rr.upR_enter
        (with_reducible refine (HRS.out wz (HX11.out.trans hw)).mono ?_)
        rintro e w3 ⟨v3, rfl, hx3, hr3⟩
        exact ⟨v3, rfl, hx3, hr3⟩
      simp only [Act.put, List.setIfInBounds_toArray, List.set_cons_zero, List.set_cons_succ]
      refine Rr.wr_y (by simp only [List.getElem?_toArray, List.getElem?_cons_succ, List.getElem?_cons_zero]; rfl) (by rfl) ⟨.bool true, fun wz hw hh => ?_, ?_⟩
      · go_simp
        apply Rg.up_enter
        (with_reducible refine (same_any All All sT.depth sT (Nat.le_refl _) _ _ _ (HR11.out.ext hw) (hold0 hh)).mono ?_)
        rintro e w3 ⟨rfl, hb3⟩
        exact ⟨rfl, hb3⟩
      simp only [Act.put, List.setIfInBounds_toArray, List.set_cons_zero, List.set_cons_succ]
      (refine Rr.wr_y (by simp only [List.getElem?_toArray, List.getElem?_cons_succ, List.getElem?_cons_zero]; rfl) (by rfl) ?_
       apply Exists.intro
       refine ⟨fun wz hw _ => ?_, ?_⟩
       · have hcz := hw.cells.1
         go_simp
         (with_reducible exact Rg.up_value)
       simp only [Act.put, List.setIfInBounds_toArray, List.set_cons_zero, List.set_cons_succ])
      (refine Rr.wr_y (by simp only [List.getElem?_toArray, List.getElem?_cons_succ, List.getElem?_cons_zero]; rfl) (by rfl) ?_
       apply Exists.intro
       refine ⟨fun wz hw _ => ?_, ?_⟩
       · have hcz := hw.cells.1
         go_simp
         (with_reducible exact Rg.up_value)
       simp only [Act.put, List.setIfInBounds_toArray, List.set_cons_zero, List.set_cons_succ])
      (refine Rr.wr_y (by simp only [List.getElem?_toArray, List.getElem?_cons_succ, List.getElem?_cons_zero]; rfl) (by rfl) ?_
       apply Exists.intro
       refine ⟨fun wz hw _ => ?_, ?_⟩
       · have hcz := hw.cells.1
         exact up_row (by rfl) ((hw.block _ (Rg.lt_of_heap h13)).trans h13) Try.underlying26 (by kernel_rfl)
       simp only [Act.put, List.setIfInBounds_toArray, List.set_cons_zero, List.set_cons_succ])
      (refine Rr.wr_y (by simp only [List.getElem?_toArray, List.getElem?_cons_succ, List.getElem?_cons_zero]; rfl) (by rfl) ?_
       apply Exists.intro
       refine ⟨fun wz hw _ => ?_, ?_⟩
       · have hcz := hw.cells.1
         exact up_row (by rfl) ((hw.block _ (Rg.lt_of_heap h15)).trans h15) Try.underlying26 (by kernel_rfl)
       simp only [Act.put, List.setIfInBounds_toArray, List.set_cons_zero, List.set_cons_succ])
      (refine Rr.wr_y (by simp only [List.getElem?_toArray, List.getElem?_cons_succ, List.getElem?_cons_zero]; rfl) (by rfl) ?_
       apply Exists.intro
       refine ⟨fun wz hw _ => ?_, ?_⟩
       · have hcz := hw.cells.1
         go_simp
         (with_reducible exact Rg.up_value)
       simp only [Act.put, List.setIfInBounds_toArray, List.set_cons_zero, List.set_cons_succ])
      (refine Rr.wr_y (by simp only [List.getElem?_toArray, List.getElem?_cons_succ, List.getElem?_cons_zero]; rfl) (by rfl) ?_
       apply Exists.intro
       refine ⟨fun wz hw _ => ?_, ?_⟩
       · have hcz := hw.cells.1
         go_simp
         (with_reducible exact Rg.up_value)
       simp only [Act.put, List.setIfInBounds_toArray, List.set_cons_zero, List.set_cons_succ])
      (refine Rr.wr_y (by simp only [List.getElem?_toArray, List.getElem?_cons_succ, List.getElem?_cons_zero]; rfl) (by rfl) ?_
       apply Exists.intro
       refine ⟨fun wz hw _ => ?_, ?_⟩
       · have hcz := hw.cells.1
         go_simp
         (with_reducible exact Rg.up_value)
       simp only [Act.put, List.setIfInBounds_toArray, List.set_cons_zero, List.set_cons_succ])
      (refine Rr.wr_y (by simp only [List.getElem?_toArray, List.getElem?_cons_succ, List.getElem?_cons_zero]; rfl) (by rfl) ?_
       apply Exists.intro
       refine ⟨fun wz hw _ => ?_, ?_⟩
       · have hcz := hw.cells.1
         go_simp
         (with_reducible exact Rg.up_value)
       simp only [Act.put, List.setIfInBounds_toArray, List.set_cons_zero, List.set_cons_succ])
      (refine Rr.wr_y (by simp only [List.getElem?_toArray, List.getElem?_cons_succ, List.getElem?_cons_zero]; rfl) (by rfl) ?_
       apply Exists.intro
       refine ⟨fun wz hw _ => ?_, ?_⟩
       · have hcz := hw.cells.1
         go_simp
         (with_reducible exact Rg.up_value)
       simp only [Act.put, List.setIfInBounds_toArray, List.set_cons_zero, List.set_cons_succ])
      (refine Rr.wr_y (by simp only [List.getElem?_toArray, List.getElem?_cons_succ, List.getElem?_cons_zero]; rfl) (by rfl) ?_
       apply Exists.intro
       refine ⟨fun wz hw _ => ?_, ?_⟩
       · have hcz := hw.cells.1
         go_simp
         (with_reducible exact Rg.up_value)
       simp only [Act.put, List.setIfInBounds_toArray, List.set_cons_zero, List.set_cons_succ])
      (refine Rr.wr_y (by simp only [List.getElem?_toArray, List.getElem?_cons_succ, List.getElem?_cons_zero]; rfl) (by rfl) ?_
       apply Exists.intro
       refine ⟨fun wz hw _ => ?_, ?_⟩
       · have hcz := hw.cells.1
         go_simp
         (with_reducible exact Rg.up_value)
       simp only [Act.put, List.setIfInBounds_toArray, List.set_cons_zero, List.set_cons_succ])
      (refine Rr.wr_y (by simp only [List.getElem?_toArray, List.getElem?_cons_succ, List.getElem?_cons_zero]; rfl) (by rfl) ?_
       apply Exists.intro
       refine ⟨fun wz hw _ => ?_, ?_⟩
       · have hcz := hw.cells.1
         go_simp
         (with_reducible exact Rg.up_value)
       simp only [Act.put, List.setIfInBounds_toArray, List.set_cons_zero, List.set_cons_succ])
      (refine Rr.wr_y (by simp only [List.getElem?_toArray, List.getElem?_cons_succ, List.getElem?_cons_zero]; rfl) (by rfl) ?_
       apply Exists.intro
       refine ⟨fun wz hw _ => ?_, ?_⟩
       · have hcz := hw.cells.1
         exact up_row (by rfl) ((hw.block _ (Rg.lt_of_heap h12)).trans h12) Try.underlying29 (by kernel_rfl)
       simp only [Act.put, List.setIfInBounds_toArray, List.set_cons_zero, List.set_cons_succ])
      (refine Rr.wr_y (by simp only [List.getElem?_toArray, List.getElem?_cons_succ, List.getElem?_cons_zero]; rfl) (by rfl) ?_
       apply Exists.intro
       refine ⟨fun wz hw _ => ?_, ?_⟩
       · have hcz := hw.cells.1
         go_simp
         apply Rg.up_enter
         (with_reducible refine (HP2.out _ _ (HR11.out.ext hw)).mono ?_)
         rintro e w3 ⟨rfl, hb3⟩
         exact ⟨rfl, hb3⟩
       simp only [Act.put, List.setIfInBounds_toArray, List.set_cons_zero, List.set_cons_succ])
      (refine Rr.wr_y (by simp only [List.getElem?_toArray, List.getElem?_cons_succ, List.getElem?_cons_zero]; rfl) (by rfl) ?_
       apply Exists.intro
       refine ⟨fun wz hw _ => ?_, ?_⟩
       · have hcz := hw.cells.1
         exact up_row (by rfl) ((hw.block _ (Rg.lt_of_heap h11)).trans h11) Try.underlying29 (by kernel_rfl)
       simp only [Act.put, List.setIfInBounds_toArray, List.set_cons_zero, List.set_cons_succ])
      (refine Rr.wr_y (by simp only [List.getElem?_toArray, List.getElem?_cons_succ, List.getElem?_cons_zero]; rfl) (by rfl) ?_
       apply Exists.intro
       refine ⟨fun wz hw _ => ?_, ?_⟩
       · have hcz := hw.cells.1
         go_simp
         apply Rg.up_enter
         (with_reducible refine (HP1.out _ (HX11.out.trans hw)).mono ?_)
         rintro e w3 ⟨rfl, hb3⟩
         exact ⟨rfl, hb3⟩
       simp only [Act.put, List.setIfInBounds_toArray, List.set_cons_zero, List.set_cons_succ])
      refine Rr.wr_y (by simp only [List.getElem?_toArray, List.getElem?_cons_succ, List.getElem?_cons_zero]; rfl) (by rfl) ⟨.bool false, fun wz hw hh => ?_, ?_⟩
      · have hl : decide (((PT : Nat) : Int) < ((PS : Nat) : Int)) = false := decide_eq_false (by omega)
        go_simp
        first
          | (with_reducible exact Rg.up_value)
          | (rw [hl]; with_reducible exact Rg.up_value)
          | (rw [show decide (PT < PS) = false from decide_eq_false (by omega)]; exact Rg.up_value)
      simp only [Act.put, List.setIfInBounds_toArray, List.set_cons_zero, List.set_cons_succ]
      (refine Rr.wr_y (by simp only [List.getElem?_toArray, List.getElem?_cons_succ, List.getElem?_cons_zero]; rfl) (by rfl) ?_
       apply Exists.intro
       refine ⟨fun wz hw _ => ?_, ?_⟩
       · have hcz := hw.cells.1
         go_simp
         (with_reducible exact Rg.up_value)
       simp only [Act.put, List.setIfInBounds_toArray, List.set_cons_zero, List.set_cons_succ])
      (refine Rr.wr_y (by simp only [List.getElem?_toArray, List.getElem?_cons_succ, List.getElem?_cons_zero]; rfl) (by rfl) ?_
       apply Exists.intro
       refine ⟨fun wz hw _ => ?_, ?_⟩
       · have hcz := hw.cells.1
         go_simp
         (with_reducible exact Rg.up_value)
       simp only [Act.put, List.setIfInBounds_toArray, List.set_cons_zero, List.set_cons_succ])
      (refine Rr.wr_y (by simp only [List.getElem?_toArray, List.getElem?_cons_succ, List.getElem?_cons_zero]; rfl) (by rfl) ?_
       apply Exists.intro
       refine ⟨fun wz hw _ => ?_, ?_⟩
       · have hcz := hw.cells.1
         exact up_row (by rfl) ((hw.block _ (Rg.lt_of_heap h12)).trans h12) Try.underlying29 (by kernel_rfl)
       simp only [Act.put, List.setIfInBounds_toArray, List.set_cons_zero, List.set_cons_succ])
      (refine Rr.wr_y (by simp only [List.getElem?_toArray, List.getElem?_cons_succ, List.getElem?_cons_zero]; rfl) (by rfl) ?_
       apply Exists.intro
       refine ⟨fun wz hw _ => ?_, ?_⟩
       · have hcz := hw.cells.1
         exact up_row (by rfl) ((hw.block _ (Rg.lt_of_heap h12)).trans h12) Try.underlying29 (by kernel_rfl)
       simp only [Act.put, List.setIfInBounds_toArray, List.set_cons_zero, List.set_cons_succ])
      refine Rr.wr_z (fun v w' => Rd All w' sT v) (by simp only [List.getElem?_toArray, List.getElem?_cons_succ, List.getElem?_cons_zero]; rfl) (by rfl) (fun v w1 w2 h e => by first | exact Rd.ext e h | exact h.ext e) (fun wz hw hh => ?_) (fun u => ?_)
      · have hcz := hw.cells.1
        go_simp
        apply Rr.upR_enter
        (with_reducible refine (HSS.out wz _ (HR11.out.ext hw)).mono ?_)
        rintro e w3 ⟨v3, rfl, hx3, hr3⟩
        exact ⟨v3, rfl, hx3, hr3⟩
      simp only [Act.put, List.setIfInBounds_toArray, List.set_cons_zero, List.set_cons_succ]
      refine Rr.wr_y (by simp only [List.getElem?_toArray, List.getElem?_cons_succ, List.getElem?_cons_zero]; rfl) (by rfl) ⟨.bool true, fun wz hw hh => ?_, ?_⟩
      · go_simp
        apply Rg.up_enter
        (with_reducible refine (same_any All All sT.depth sT (Nat.le_refl _) _ _ _ (hold0 hh) (HR11.out.ext hw)).mono ?_)
        rintro e w3 ⟨rfl, hb3⟩
        exact ⟨rfl, hb3⟩
      simp only [Act.put, List.setIfInBounds_toArray, List.set_cons_zero, List.set_cons_succ]
      (refine Rr.wr_y (by simp only [List.getElem?_toArray, List.getElem?_cons_succ, List.getElem?_cons_zero]; rfl) (by rfl) ?_
       apply Exists.intro
       refine ⟨fun wz hw _ => ?_, ?_⟩
       · have hcz := hw.cells.1
         go_simp
         (with_reducible exact Rg.up_value)
       simp only [Act.put, List.setIfInBounds_toArray, List.set_cons_zero, List.set_cons_succ])
      refine Rr.wr_nil ?_
      intro wz hz hh
      simp only [List.length_cons, List.length_nil, List.drop_succ_cons, List.drop_zero, Nat.reduceAdd]
      have HZ := Lib.hid (HX.out.trans (HX11.out.trans hz))
      clear hh h11 h12 h13 h15 hz
      go_wp2_with (fail)
      go_roundw
      case rel => exact ⟨1 + 1, by go_num, by omega, by first | exact HZ.out | exact Ext.drew HZ.out | exact Ext.drewN HZ.out⟩
      case measure => simp [intOf]
    · rw [show ((2 : Nat) : Int) = 2 from rfl]
      go_wp2_with (fail)
      go_ret
      exact ⟨rfl, HY.out.trans HX.out⟩
end Go.Proofs.Ytgkdeknfmmgbdaa
