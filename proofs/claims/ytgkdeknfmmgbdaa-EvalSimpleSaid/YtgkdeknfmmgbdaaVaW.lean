/-
  EvalValues walked. Conditions: the arguments read as lists of ints, and ints of the machine.
-/
import Derived.Test.YtgkdeknfmmgbdaaBeC
import Derived.Test.YtgkdeknfmmgbdaaJnI
namespace Go.Proofs.Ytgkdeknfmmgbdaa
set_option linter.unusedVariables false
set_option linter.unusedSimpArgs false
open Go.RowKit

theorem up_arr {ρ : Operand → Value} {d : Option Tmp} {x : Operand} {ty : TypeId} {ps : String} {af : Array Edge} {gd : Option (Nat × Bool)} {w : World} {g : Nat} {T t : TypeId} {cs : Array Value} {n : Nat} {s : TypeId} {fr : Nat × Nat}
    (hx : ρ x = .pointer (some ⟨g, 0, none⟩)) (hg : w.heap[g]? = some (.cells cs t fr))
    (hu : Try.prog.underlying T = some (.array n s)) (hi : (Try.prog.info? T).map (·.size) = some cs.size) :
    Rg.up Try.prog w (.agg cs) ((execOp ρ { dst := d, op := .load T x, type := ty, pos := ps, after := af, guard := gd }).run Try.prog w) := by
  have h := run_loadVar_row (P := Try.prog) w g t T cs _ (.array n s) hg hu rfl hi
  unfold execOp
  simp only [hx, Instr.loadAt, Instr.sureAddr, Sem.run_bind, Sem.run_pure, Result.andThen_ok, h]
  exact Rg.up_value
theorem wpList_val {ops : Array Oper} {rest : List Oper} {o : Oper} {a : Act} {w : World} {Q : Exit → Act → World → Prop} (hgd : o.guard = none) (v : Value) (hu : (execOp a.eval o).run Try.prog w = .ok (.value v) w)
    (h : wpList Try.prog ops Q rest (a.put o.dst v) w) : wpList Try.prog ops Q (o :: rest) a w := by
  refine wpList_plain hgd fun K hK => ?_
  unfold Oper.wp
  rw [hu]
  exact hK _ _ h
theorem agg5_inj {a0 a1 a2 a3 a4 b0 b1 b2 b3 b4 : Value} (h : Value.agg #[a0, a1, a2, a3, a4] = Value.agg #[b0, b1, b2, b3, b4]) : a0 = b0 ∧ a1 = b1 ∧ a2 = b2 ∧ a3 = b3 ∧ a4 = b4 := by
  injection h with h
  simpa using h
/-- The two formulas, side by side. -/
def TwoR (te : Ex) (w : World) (v : Value) : Prop :=
  ∃ p a0 a1 a2 a3 a4 c0 c1 c2 c3 c4 t', v = .slice (some ⟨p, 0, none⟩) 2 2 ∧ w.heap[p]? = some (.cells #[a0, a1, a2, a3, a4, c0, c1, c2, c3, c4] 29) ∧ Rd All w te (.agg #[a0, a1, a2, a3, a4]) ∧ Rd All w t' (.agg #[c0, c1, c2, c3, c4]) ∧ t'.parts ≤ 1000
theorem TwoR.ext {te : Ex} {w w' : World} {v : Value} (h : TwoR te w v) (e : Ext w w') : TwoR te w' v := by
  obtain ⟨p, a0, a1, a2, a3, a4, c0, c1, c2, c3, c4, t', h1, h2, h3, h4, h5⟩ := h
  exact ⟨p, a0, a1, a2, a3, a4, c0, c1, c2, c3, c4, t', h1, (e.block _ (Rg.lt_of_heap h2)).trans h2, h3.ext e, h4.ext e, h5⟩
def BentR (w : World) (v : Value) : Prop := ∃ t', Rd All w t' v ∧ t'.parts ≤ 1000
theorem BentR.ext {w w' : World} {v : Value} (h : BentR w v) (e : Ext w w') : BentR w' v := by
  obtain ⟨t', h1, h2⟩ := h
  exact ⟨t', h1.ext e, h2⟩
theorem eval_zero (vs : Vals) (t : Ex) : (evalI vs t).2 ≠ 0 → (evalI vs t).1 = (0, 0) := by
  unfold evalI
  split
  · cases valueE vs t with
    | ok x => intro h; exact absurd rfl h
    | error f => intro _; rfl
  · intro _; rfl

set_option maxRecDepth 100000 in
set_option maxHeartbeats 4000000 in
theorem values_walk (l0 l1 : List Int) (q0 q1 : Int) (b0 : -9223372036854775808 ≤ q0 ∧ q0 ≤ 9223372036854775807) (b1 : -9223372036854775808 ≤ q1 ∧ q1 ≤ 9223372036854775807) (w : World) (v0 v1 : Value) (r0 : IRd w v0 l0) (r1 : IRd w v1 l1) :
    Calls Try.prog 3 #[v0, v1, .agg #[.int .i64 q0, .int .i64 q1]] w fun e w' => e = .returned (.bool true) ∧ Ext w w' := by
  have HMA := Lib.hid (fun w' (hw : Ext w w') => Made_any l0 w' v0 (r0.ext hw))
  have HVA : Hid (∀ w', Ext w w' → Calls Try.prog 15 #[v1] w' fun e w'' => ∃ u, e = .returned u ∧ Ext w' w'' ∧ VRd All w'' (valuesE l1) u) := Lib.hid (fun w' (hw : Ext w w') => (Values_any l1 w' v1 (r1.ext hw)).mono fun _ _ ⟨u, h1, h2, h3, _⟩ => ⟨u, h1, h2, h3⟩)
  have HTP := Lib.hid (madeE_parts l0)
  have HTW := Lib.hid (madeE_two l0)
  have HB0 := Lib.hid b0; have HB1 := Lib.hid b1
  clear r0 r1 b0 b1
  generalize madeE l0 = te at *
  generalize valuesE l1 = vs at *
  go_enter Try.func3, Try.ntmps3
  have hb5 : (w.alloc (.cells #[.int .i64 q0, .int .i64 q1] 23)).heap[w.heap.size]? = some (.cells #[.int .i64 q0, .int .i64 q1] 23) := block_new rfl
  have hx5 : Ext w (w.alloc (.cells #[.int .i64 q0, .int .i64 q1] 23)) := (by with_reducible repeat (first | exact Ext.refl _ | assumption | apply Ext.drewN | apply Ext.drew | apply Ext.alloc | (refine Ext.setCell ?_ (by simp <;> omega) _) | (refine Ext.trans ?_ (by assumption))))
  have H5 := Lib.hid hb5; have HX5 := Lib.hid hx5
  clear hb5 hx5
  go_upto_region 3 with (first
    | (go_at_call 13; (with_reducible refine (sanity_any _).mono ?_); rintro e w1 ⟨rfl, hx1⟩)
    | (go_at_call 14; (with_reducible refine (HMA.out _ (by with_reducible repeat (first | exact Ext.refl _ | assumption | apply Ext.drewN | apply Ext.drew | apply Ext.alloc | (refine Ext.setCell ?_ (by simp <;> omega) _) | (refine Ext.trans ?_ (by assumption))))).mono ?_); rintro e w2 ⟨u2, rfl, hx2, hr2⟩; obtain ⟨op, m1, m2, nm, base, len, capt, hform⟩ := hr2.form; subst hform)
    | (go_at_call 15; (with_reducible refine (HVA.out _ (by with_reducible repeat (first | exact Ext.refl _ | assumption | apply Ext.drewN | apply Ext.drew | apply Ext.alloc | (refine Ext.setCell ?_ (by simp <;> omega) _) | (refine Ext.trans ?_ (by assumption))))).mono ?_); rintro e w3 ⟨u3, rfl, hx3, hv3⟩))
  have hx13 := hx1.trans (hx2.trans hx3)
  have hx34 := Ext.alloc (Ext.refl w3) (.cells #[.string op, .int .i64 m1, .int .i64 m2, .string nm, .slice base len capt] 29)
  have h8 : (w3.alloc (.cells #[.string op, .int .i64 m1, .int .i64 m2, .string nm, .slice base len capt] 29)).heap[w3.heap.size]? = some (.cells #[.string op, .int .i64 m1, .int .i64 m2, .string nm, .slice base len capt] 29) := block_new rfl
  have h5 := ((hx13.trans hx34).block _ (Rg.lt_of_heap H5.out)).trans H5.out
  have HR := Lib.hid (hr2.ext (hx3.trans hx34)); have HV := Lib.hid (hv3.ext hx34); have HX4 := Lib.hid (HX5.out.trans (hx13.trans hx34))
  clear hx13 hx34 hx1 hx2 hx3 hr2 hv3 H5 HX5 HMA HVA
  try change Code.wp _ _ _ _ (w3.alloc (.cells #[.string op, .int .i64 m1, .int .i64 m2, .string nm, .slice base len capt] 29))
  generalize w3.alloc (.cells #[.string op, .int .i64 m1, .int .i64 m2, .string nm, .slice base len capt] 29) = W4 at *
  generalize w3.heap.size = p8 at *
  obtain ⟨p5, hp5⟩ : ∃ p, p = w.heap.size := ⟨_, rfl⟩
  rw [← hp5] at h5 ⊢
  clear hp5
  refine Rp.wp_regionTE [6] [(0, .y), (1, .y), (2, .y), (6, .y), (3, .z), (4, .z)] [5] (fun _ => (.cells #[] 29, Rg.ptr)) (fun c a d v w h => by have h' : _ ∧ _ := h; exact ⟨(Rr.put_defers a d v).symm.trans h'.1, h'.2⟩) (by kernel_rfl) (by kernel_rfl) ?_
  (refine Rr.wr_y (by simp only [List.getElem?_toArray, List.getElem?_cons_succ, List.getElem?_cons_zero]; rfl) (by rfl) ?_
   apply Exists.intro
   refine ⟨fun wz hw _ => ?_, ?_⟩
   · have hcz := hw.cells.1
     exact up_row (by rfl) ((hw.block _ (Rg.lt_of_heap h8)).trans h8) Try.underlying29 (by kernel_rfl)
   simp only [Act.put, List.setIfInBounds_toArray, List.set_cons_zero, List.set_cons_succ])
  (refine Rr.wr_y (by simp only [List.getElem?_toArray, List.getElem?_cons_succ, List.getElem?_cons_zero]; rfl) (by rfl) ?_
   apply Exists.intro
   refine ⟨fun wz hw _ => ?_, ?_⟩
   · have hcz := hw.cells.1
     exact up_row (by rfl) ((hw.block _ (Rg.lt_of_heap h8)).trans h8) Try.underlying29 (by kernel_rfl)
   simp only [Act.put, List.setIfInBounds_toArray, List.set_cons_zero, List.set_cons_succ])
  refine Rr.wr_y (by simp only [List.getElem?_toArray, List.getElem?_cons_succ, List.getElem?_cons_zero]; rfl) (by rfl) ⟨.agg #[.int .i64 q0, .int .i64 q1], fun wz hw hh => ?_, ?_⟩
  · exact up_arr (by rfl) ((hw.block _ (Rg.lt_of_heap h5)).trans h5) Try.underlying23 (by kernel_rfl)
  simp only [Act.put, List.setIfInBounds_toArray, List.set_cons_zero, List.set_cons_succ]
  (refine Rr.wr_y (by simp only [List.getElem?_toArray, List.getElem?_cons_succ, List.getElem?_cons_zero]; rfl) (by rfl) ?_
   apply Exists.intro
   refine ⟨fun wz hw _ => ?_, ?_⟩
   · have hcz := hw.cells.1
     go_simp
     (with_reducible exact Rg.up_value)
   simp only [Act.put, List.setIfInBounds_toArray, List.set_cons_zero, List.set_cons_succ])
  refine Rr.wr_z (fun v w' => BentR w' v) (by simp only [List.getElem?_toArray, List.getElem?_cons_succ, List.getElem?_cons_zero]; rfl) (by rfl) (fun v w1 w2 h e => h.ext e) (fun wz hw hh => ?_) (fun u => ?_)
  · go_simp
    apply Rr.upR_enter
    (with_reducible refine (Bent_any te (by have := HTP.out; omega) HTW.out wz _ q0 q1 HB0.out HB1.out (HR.out.ext hw)).mono ?_)
    rintro e w5 ⟨u5, rfl, hx5, t', hr5, hp5⟩
    exact ⟨u5, rfl, hx5, t', hr5, by have := HTP.out; omega⟩
  simp only [Act.put, List.setIfInBounds_toArray, List.set_cons_zero, List.set_cons_succ]
  refine Rr.wr_z (fun v w' => TwoR te w' v) (by simp only [List.getElem?_toArray, List.getElem?_cons_succ, List.getElem?_cons_zero]; rfl) (by rfl) (fun v w1 w2 h e => h.ext e) (fun wz hw hh => ?_) (fun us => ?_)
  · obtain ⟨t', hr5, hp5⟩ := hold0 hh
    obtain ⟨op', n1', n2', nm', base', len', cap', hform⟩ := hr5.form
    subst hform
    go_simp
    refine ⟨Ext.alloc (Ext.refl _) _, wz.heap.size, _, _, _, _, _, _, _, _, _, _, t', rfl, block_new rfl, (HR.out.ext hw).ext (Ext.alloc (Ext.refl _) _), hr5.ext (Ext.alloc (Ext.refl _) _), hp5⟩
  simp only [Act.put, List.setIfInBounds_toArray, List.set_cons_zero, List.set_cons_succ]
  refine Rr.wr_nil ?_
  intro wy hy hh
  simp only [List.filterMap_cons, List.filterMap_nil, List.getElem?_cons_succ, List.getElem?_cons_zero]
  have hTW := hold0 hh
  clear hh h8 h5
  obtain ⟨pt, a0, a1, a2, a3, a4, c0, c1, c2, c3, c4, t', rfl, hpt, hra, hrb, hpb⟩ := hTW
  obtain ⟨oa, ia1, ia2, na, ba, la, ca, hform⟩ := hra.form
  obtain ⟨rfl, rfl, rfl, rfl, rfl⟩ := agg5_inj hform
  obtain ⟨ob, ib1, ib2, nb, bb, lb, cb, hform⟩ := hrb.form
  obtain ⟨rfl, rfl, rfl, rfl, rfl⟩ := agg5_inj hform
  have HPT := Lib.hid hpt; have HRA := Lib.hid hra; have HRB := Lib.hid hrb; have HPB := Lib.hid hpb; have HY := Lib.hid (HX4.out.trans hy); have HVy := Lib.hid (HV.out.ext hy)
  clear hpt hra hrb hpb hy HR HV HX4
  refine wpList_val rfl (.int .i64 2) (by go_simp) ?_
  simp only [Act.put, List.setIfInBounds_toArray, List.set_cons_zero, List.set_cons_succ]
  go_wp2_with (fail)
  go_loopw [27] (fun k wr => ∃ j : Nat, k = .int .i64 j ∧ j ≤ 2 ∧ Ext wy wr) (fun k _ => 2 - (intOf k).toNat)
  case atStart => exact ⟨0, rfl, by omega, Ext.refl _⟩
  case round =>
    obtain ⟨j, rfl, hj, hx⟩ := hrel
    have HX := Lib.hid hx
    obtain ⟨ct, -, lt⟩ := Rg.cells_of ((hx.block _ (Rg.lt_of_heap HPT.out)).trans HPT.out)
    clear hx
    rcases (show j = 0 ∨ j = 1 ∨ j = 2 by omega) with rfl | rfl | rfl
    · skip
      have k0 : wr.cell? ⟨pt, 0, none⟩ = some (.string oa) := ct 0
      have k1 : wr.cell? ⟨pt, 1, none⟩ = some (.int .i64 ia1) := ct 1
      have k2 : wr.cell? ⟨pt, 2, none⟩ = some (.int .i64 ia2) := ct 2
      have k3 : wr.cell? ⟨pt, 3, none⟩ = some (.string na) := ct 3
      have k4 : wr.cell? ⟨pt, 4, none⟩ = some (.slice ba la ca) := ct 4
      clear ct
      have hz := eval_zero vs te
      have HE := Lib.hid (fun W (hW : Ext wr W) => eval_any All vs te W (.agg #[(.string oa), (.int .i64 ia1), (.int .i64 ia2), (.string na), (.slice ba la ca)]) u3 (HRA.out.ext (HX.out.trans hW)) (HVy.out.ext (HX.out.trans hW)))
      have HF := Lib.hid (fun W (hW : Ext wr W) => reval_any vs te (by have := HTP.out; omega) W (.agg #[(.string oa), (.int .i64 ia1), (.int .i64 ia2), (.string na), (.slice ba la ca)]) u3 (HRA.out.ext (HX.out.trans hW)) (HVy.out.ext (HX.out.trans hW)))
      obtain ⟨⟨⟨r1, r2⟩, rf⟩, hr⟩ : ∃ y, y = evalI vs te := ⟨_, rfl⟩
      rw [← hr] at HE HF hz
      have HZ := Lib.hid hz
      clear hr hz
      rw [show ((0 : Nat) : Int) = 0 from rfl]
      go_upto_region 7 with (go_at_call 17; (with_reducible refine (HE.out _ (by with_reducible repeat (first | exact Ext.refl _ | assumption | apply Ext.drewN | apply Ext.drew | apply Ext.alloc | (refine Ext.setCell ?_ (by simp <;> omega) _) | (refine Ext.trans ?_ (by assumption))))).mono ?_); rintro e w6 ⟨rfl, hx6⟩)
      have h12 : (w6.alloc (.cells #[.int .i64 r1, .int .i64 r2] 26)).heap[w6.heap.size]? = some (.cells #[.int .i64 r1, .int .i64 r2] 26) := block_new rfl
      have hx67 := Ext.alloc (Ext.refl w6) (.cells #[.int .i64 r1, .int .i64 r2] 26)
      have hxa : Ext wr (wr.alloc (.cells #[(.string oa), (.int .i64 ia1), (.int .i64 ia2), (.string na), (.slice ba la ca)] 29)) := (by with_reducible repeat (first | exact Ext.refl _ | assumption | apply Ext.drewN | apply Ext.drew | apply Ext.alloc | (refine Ext.setCell ?_ (by simp <;> omega) _) | (refine Ext.trans ?_ (by assumption))))
      have h11 : (wr.alloc (.cells #[(.string oa), (.int .i64 ia1), (.int .i64 ia2), (.string na), (.slice ba la ca)] 29)).heap[wr.heap.size]? = some (.cells #[(.string oa), (.int .i64 ia1), (.int .i64 ia2), (.string na), (.slice ba la ca)] 29) := block_new rfl
      have h117 := ((hx6.trans hx67).block _ (Rg.lt_of_heap h11)).trans h11
      have HX7 := Lib.hid (hxa.trans (hx6.trans hx67))
      have H12 := Lib.hid h12
      try clear k0
      try clear k1
      try clear k2
      try clear k3
      try clear k4
      clear h11 h12 hx67 hxa hx6 lt HE
      generalize w6.alloc (.cells #[.int .i64 r1, .int .i64 r2] 26) = W7 at *
      generalize w6.heap.size = p12 at *
      generalize wr.heap.size = p11 at *
      obtain ⟨c11, -, l11⟩ := Rg.cells_of h117
      have k0 : W7.cell? ⟨p11, 0, none⟩ = some (.string oa) := c11 0
      have k1 : W7.cell? ⟨p11, 1, none⟩ = some (.int .i64 ia1) := c11 1
      have k2 : W7.cell? ⟨p11, 2, none⟩ = some (.int .i64 ia2) := c11 2
      have k3 : W7.cell? ⟨p11, 3, none⟩ = some (.string na) := c11 3
      have k4 : W7.cell? ⟨p11, 4, none⟩ = some (.slice ba la ca) := c11 4
      clear c11 h117
      go_upto_region 8 with (go_at_call 18; (with_reducible refine (HF.out _ HX7.out).mono ?_); rintro e w8 ⟨rfl, hx8⟩)
      have h14 : (w8.alloc (.cells #[.int .i64 r1, .int .i64 r2] 26)).heap[w8.heap.size]? = some (.cells #[.int .i64 r1, .int .i64 r2] 26) := block_new rfl
      have hx89 := hx8.trans (Ext.alloc (Ext.refl w8) (.cells #[.int .i64 r1, .int .i64 r2] 26))
      have h129 := (hx89.block _ (Rg.lt_of_heap H12.out)).trans H12.out
      have HX9 := Lib.hid (HX.out.trans (HX7.out.trans hx89))
      clear hx89 hx8 HF H12 k0 k1 k2 k3 k4 l11
      generalize w8.alloc (.cells #[.int .i64 r1, .int .i64 r2] 26) = W9 at *
      generalize w8.heap.size = p14 at *
      obtain ⟨c12, -, l12⟩ := Rg.cells_of h129
      obtain ⟨c14, -, l14⟩ := Rg.cells_of h14
      have y0 : W9.cell? ⟨p12, 0, none⟩ = some (.int .i64 r1) := c12 0
      have y1 : W9.cell? ⟨p12, 1, none⟩ = some (.int .i64 r2) := c12 1
      have y2 : W9.cell? ⟨p14, 0, none⟩ = some (.int .i64 r1) := c14 0
      have y3 : W9.cell? ⟨p14, 1, none⟩ = some (.int .i64 r2) := c14 1
      clear c12 c14 h129 h14
      have HN := fun w => neq26 r1 r2 w
      by_cases hf : rf = 0
      · have hfb : (rf != 0) = false := by rw [hf]; rfl
        clear hf
        go_wp2_with (fail)
        go_roundw
        case rel => exact ⟨0 + 1, by go_num, by omega, by first | exact HX9.out | exact Ext.drew HX9.out | exact Ext.drewN HX9.out⟩
        case measure => simp [intOf]
      · have hfb : (rf != 0) = true := by rw [bne_iff_ne]; exact hf
        have hz := HZ.out hf
        injection hz with hz1 hz2
        subst hz1 hz2
        clear hf
        go_wp2_with (fail)
        go_roundw
        case rel => exact ⟨0 + 1, by go_num, by omega, by first | exact HX9.out | exact Ext.drew HX9.out | exact Ext.drewN HX9.out⟩
        case measure => simp [intOf]
    · skip
      have k0 : wr.cell? ⟨pt, 5, none⟩ = some (.string ob) := ct 5
      have k1 : wr.cell? ⟨pt, 6, none⟩ = some (.int .i64 ib1) := ct 6
      have k2 : wr.cell? ⟨pt, 7, none⟩ = some (.int .i64 ib2) := ct 7
      have k3 : wr.cell? ⟨pt, 8, none⟩ = some (.string nb) := ct 8
      have k4 : wr.cell? ⟨pt, 9, none⟩ = some (.slice bb lb cb) := ct 9
      clear ct
      have hz := eval_zero vs t'
      have HE := Lib.hid (fun W (hW : Ext wr W) => eval_any All vs t' W (.agg #[(.string ob), (.int .i64 ib1), (.int .i64 ib2), (.string nb), (.slice bb lb cb)]) u3 (HRB.out.ext (HX.out.trans hW)) (HVy.out.ext (HX.out.trans hW)))
      have HF := Lib.hid (fun W (hW : Ext wr W) => reval_any vs t' (by have := HPB.out; omega) W (.agg #[(.string ob), (.int .i64 ib1), (.int .i64 ib2), (.string nb), (.slice bb lb cb)]) u3 (HRB.out.ext (HX.out.trans hW)) (HVy.out.ext (HX.out.trans hW)))
      obtain ⟨⟨⟨r1, r2⟩, rf⟩, hr⟩ : ∃ y, y = evalI vs t' := ⟨_, rfl⟩
      rw [← hr] at HE HF hz
      have HZ := Lib.hid hz
      clear hr hz
      rw [show ((1 : Nat) : Int) = 1 from rfl]
      go_upto_region 7 with (go_at_call 17; (with_reducible refine (HE.out _ (by with_reducible repeat (first | exact Ext.refl _ | assumption | apply Ext.drewN | apply Ext.drew | apply Ext.alloc | (refine Ext.setCell ?_ (by simp <;> omega) _) | (refine Ext.trans ?_ (by assumption))))).mono ?_); rintro e w6 ⟨rfl, hx6⟩)
      have h12 : (w6.alloc (.cells #[.int .i64 r1, .int .i64 r2] 26)).heap[w6.heap.size]? = some (.cells #[.int .i64 r1, .int .i64 r2] 26) := block_new rfl
      have hx67 := Ext.alloc (Ext.refl w6) (.cells #[.int .i64 r1, .int .i64 r2] 26)
      have hxa : Ext wr (wr.alloc (.cells #[(.string ob), (.int .i64 ib1), (.int .i64 ib2), (.string nb), (.slice bb lb cb)] 29)) := (by with_reducible repeat (first | exact Ext.refl _ | assumption | apply Ext.drewN | apply Ext.drew | apply Ext.alloc | (refine Ext.setCell ?_ (by simp <;> omega) _) | (refine Ext.trans ?_ (by assumption))))
      have h11 : (wr.alloc (.cells #[(.string ob), (.int .i64 ib1), (.int .i64 ib2), (.string nb), (.slice bb lb cb)] 29)).heap[wr.heap.size]? = some (.cells #[(.string ob), (.int .i64 ib1), (.int .i64 ib2), (.string nb), (.slice bb lb cb)] 29) := block_new rfl
      have h117 := ((hx6.trans hx67).block _ (Rg.lt_of_heap h11)).trans h11
      have HX7 := Lib.hid (hxa.trans (hx6.trans hx67))
      have H12 := Lib.hid h12
      try clear k0
      try clear k1
      try clear k2
      try clear k3
      try clear k4
      clear h11 h12 hx67 hxa hx6 lt HE
      generalize w6.alloc (.cells #[.int .i64 r1, .int .i64 r2] 26) = W7 at *
      generalize w6.heap.size = p12 at *
      generalize wr.heap.size = p11 at *
      obtain ⟨c11, -, l11⟩ := Rg.cells_of h117
      have k0 : W7.cell? ⟨p11, 0, none⟩ = some (.string ob) := c11 0
      have k1 : W7.cell? ⟨p11, 1, none⟩ = some (.int .i64 ib1) := c11 1
      have k2 : W7.cell? ⟨p11, 2, none⟩ = some (.int .i64 ib2) := c11 2
      have k3 : W7.cell? ⟨p11, 3, none⟩ = some (.string nb) := c11 3
      have k4 : W7.cell? ⟨p11, 4, none⟩ = some (.slice bb lb cb) := c11 4
      clear c11 h117
      go_upto_region 8 with (go_at_call 18; (with_reducible refine (HF.out _ HX7.out).mono ?_); rintro e w8 ⟨rfl, hx8⟩)
      have h14 : (w8.alloc (.cells #[.int .i64 r1, .int .i64 r2] 26)).heap[w8.heap.size]? = some (.cells #[.int .i64 r1, .int .i64 r2] 26) := block_new rfl
      have hx89 := hx8.trans (Ext.alloc (Ext.refl w8) (.cells #[.int .i64 r1, .int .i64 r2] 26))
      have h129 := (hx89.block _ (Rg.lt_of_heap H12.out)).trans H12.out
      have HX9 := Lib.hid (HX.out.trans (HX7.out.trans hx89))
      clear hx89 hx8 HF H12 k0 k1 k2 k3 k4 l11
      generalize w8.alloc (.cells #[.int .i64 r1, .int .i64 r2] 26) = W9 at *
      generalize w8.heap.size = p14 at *
      obtain ⟨c12, -, l12⟩ := Rg.cells_of h129
      obtain ⟨c14, -, l14⟩ := Rg.cells_of h14
      have y0 : W9.cell? ⟨p12, 0, none⟩ = some (.int .i64 r1) := c12 0
      have y1 : W9.cell? ⟨p12, 1, none⟩ = some (.int .i64 r2) := c12 1
      have y2 : W9.cell? ⟨p14, 0, none⟩ = some (.int .i64 r1) := c14 0
      have y3 : W9.cell? ⟨p14, 1, none⟩ = some (.int .i64 r2) := c14 1
      clear c12 c14 h129 h14
      have HN := fun w => neq26 r1 r2 w
      by_cases hf : rf = 0
      · have hfb : (rf != 0) = false := by rw [hf]; rfl
        clear hf
        go_wp2_with (fail)
        go_roundw
        case rel => exact ⟨1 + 1, by go_num, by omega, by first | exact HX9.out | exact Ext.drew HX9.out | exact Ext.drewN HX9.out⟩
        case measure => simp [intOf]
      · have hfb : (rf != 0) = true := by rw [bne_iff_ne]; exact hf
        have hz := HZ.out hf
        injection hz with hz1 hz2
        subst hz1 hz2
        clear hf
        go_wp2_with (fail)
        go_roundw
        case rel => exact ⟨1 + 1, by go_num, by omega, by first | exact HX9.out | exact Ext.drew HX9.out | exact Ext.drewN HX9.out⟩
        case measure => simp [intOf]
    · rw [show ((2 : Nat) : Int) = 2 from rfl]
      go_wp2_with (fail)
      go_ret
      exact ⟨rfl, HY.out.trans HX.out⟩
end Go.Proofs.Ytgkdeknfmmgbdaa
