/-
  Package eval: value, an operation whose parts have values. Conditions: the value stands for a right tree.
-/
import Derived.Test.YtgkdeknfmmgbdaaLdL
namespace Go.Proofs.Ytgkdeknfmmgbdaa
set_option linter.unusedVariables false
set_option linter.unusedSimpArgs false
open Go.RowKit

set_option maxRecDepth 100000 in
set_option maxHeartbeats 4000000 in
theorem value_op3 (S : Nat → Prop) (op : ByteArray) (n : Int × Int) (nm : ByteArray) (ta tb : Ex) (h0 : (op.toList == [110, 117, 109]) = false) (h : (op.toList == [110, 97, 109, 101]) = false) (hi : ¬ opIx op = -1)
    (vs : Vals) (w : World) (v sl : Value) (hv : Rd S w (.mk op n nm [ta, tb]) v) (hs : VRd S w vs sl) (ra rb : Except Int (Int × Int))
    (ia : ∀ (w : World) (v sl : Value), Rd S w ta v → VRd S w vs sl → Calls Try.prog 45 #[v, sl] w fun e w' => e = endE ra ∧ Ext w w')
    (ib : ∀ (w : World) (v sl : Value), Rd S w tb v → VRd S w vs sl → Calls Try.prog 45 #[v, sl] w fun e w' => e = endE rb ∧ Ext w w') (x y : Int × Int) (hra : ra = .ok x) (hrb : rb = .ok y) (r : (Int × Int) × Int)
    (hap : ∀ w, Calls Try.prog 74 #[.agg #[.string (opNm (opIx op).toNat), .func (.func (opFn (opIx op).toNat)) #[] #[]], rv x, rv y] w fun e w' => e = .returned (rev r) ∧ Ext w w') (E0 : Ending) (HE : Hid (endE (appE r) = E0)) :
    Calls Try.prog 45 #[v, sl] w fun e w' => e = E0 ∧ Ext w w' := by
  subst hra hrb
  unfold Rd at hv
  obtain ⟨base, cap, rfl, -, -, hr⟩ := hv
  rcases hr with hr | ⟨b, rfl, -, hl⟩
  · cases hr
  obtain ⟨c, hc, hra⟩ := hl.get 0 (by simp)
  obtain ⟨d, hd, hrb⟩ := hl.get 1 (by simp)
  obtain ⟨oa, a1, a2, na, ba, la, ca, c0, c1, c2, c3, c4, ea⟩ := hra.shape
  obtain ⟨ob, b1, b2, nb, bb, lb, cb, d0, d1, d2, d3, d4, eb⟩ := hrb.shape
  simp only [List.getElem_cons_zero, List.getElem_cons_succ] at hra hrb
  rw [ea] at hra
  rw [eb] at hrb
  have hbl : b < w.heap.size := World.block_lt_of_cell? w _ (hc 0 (by decide))
  have k0 := (hc 0 (by decide)).trans (congrArg some c0)
  have k1 := (hc 1 (by decide)).trans (congrArg some c1)
  have k2 := (hc 2 (by decide)).trans (congrArg some c2)
  have k3 := (hc 3 (by decide)).trans (congrArg some c3)
  have k4 := (hc 4 (by decide)).trans (congrArg some c4)
  have k5 := (hd 0 (by decide)).trans (congrArg some d0)
  have k6 := (hd 1 (by decide)).trans (congrArg some d1)
  have k7 := (hd 2 (by decide)).trans (congrArg some d2)
  have k8 := (hd 3 (by decide)).trans (congrArg some d3)
  have k9 := (hd 4 (by decide)).trans (congrArg some d4)
  simp only [Nat.zero_add, Nat.zero_mul, Nat.add_zero, Nat.one_mul, Nat.reduceAdd] at k0 k1 k2 k3 k4 k5 k6 k7 k8 k9
  have IA := Lib.hid (fun w' (hw : Ext w w') => ia w' _ sl (Rd.ext hw hra) (hs.ext hw))
  have IB := Lib.hid (fun w' (hw : Ext w w') => ib w' _ sl (Rd.ext hw hrb) (hs.ext hw))
  have HF := Lib.hid (find_some op hi)
  clear hc hd c0 c1 c2 c3 c4 d0 d1 d2 d3 d4 ea eb hra hrb hl ia ib hs
  have g1 : b < w.heap.size + 1 := by omega
  have g2 : b < w.heap.size + 1 + 1 := by omega
  simp only [endE] at IA IB
  obtain ⟨x1, x2⟩ := x
  obtain ⟨y1, y2⟩ := y
  obtain ⟨⟨u1, u2⟩, rf⟩ := r
  have HA := Lib.hid hap
  clear hap
  go_enter Try.func45, Try.ntmps45
  go_wp2_with (first
    | (go_at_call 73; (with_reducible refine (HF.out _).mono ?_); rintro e w1 ⟨rfl, hb⟩; obtain ⟨hc, hf⟩ := hb.cells; have hz := hb.size; simp at hz; have z1 : w.heap.size < w1.heap.size := (by omega); have z2 : b < w1.heap.size := (by omega))
    | (go_at_call 45; (with_reducible refine (IA.out _ (by with_reducible repeat (first | exact Ext.refl _ | assumption | apply Ext.drewN | apply Ext.drew | apply Ext.alloc | (refine Ext.setCell ?_ (by simp <;> omega) _) | (refine Ext.trans ?_ (by assumption))))).mono ?_); rintro e w2 ⟨rfl, hb2⟩; obtain ⟨hc2, hf2⟩ := hb2.cells; have hz2 := hb2.size; simp at hz2; have z3 : w.heap.size < w1.heap.size + 1 := (by omega); have z4 : b < w1.heap.size + 1 := (by omega); have z5 : w.heap.size < w2.heap.size := (by omega); have z6 : b < w2.heap.size := (by omega); have z7 : w1.heap.size < w2.heap.size := (by omega); have z8 : w.heap.size < w2.heap.size + 1 := (by omega); have z9 : b < w2.heap.size + 1 := (by omega); have z10 : w1.heap.size < w2.heap.size + 1 := (by omega)))
  have hx1 : Ext w (w2.alloc (.cells #[.int .i64 x1, .int .i64 x2] 26)) := (by with_reducible repeat (first | exact Ext.refl _ | assumption | apply Ext.drewN | apply Ext.drew | apply Ext.alloc | (refine Ext.setCell ?_ (by simp <;> omega) _) | (refine Ext.trans ?_ (by assumption))))
  have v0 : w.heap.size + 1 < w1.heap.size := by omega
  have v1 : w.heap.size + 1 < w2.heap.size := by omega
  have v2 : w.heap.size + 1 < w1.heap.size + 1 := by omega
  have q0 : (w2.alloc (.cells #[.int .i64 x1, .int .i64 x2] 26)).cell? ⟨w1.heap.size, 0, none⟩ = some (.string (opNm (opIx op).toNat)) := by go_simp
  have q1 : (w2.alloc (.cells #[.int .i64 x1, .int .i64 x2] 26)).cell? ⟨w1.heap.size, 1, none⟩ = some (.func (.func (opFn (opIx op).toNat)) #[] #[]) := by go_simp
  have q2 : (w2.alloc (.cells #[.int .i64 x1, .int .i64 x2] 26)).cell? ⟨w2.heap.size, 0, none⟩ = some (.int .i64 x1) := by go_simp
  have q3 : (w2.alloc (.cells #[.int .i64 x1, .int .i64 x2] 26)).cell? ⟨w2.heap.size, 1, none⟩ = some (.int .i64 x2) := by go_simp
  have q4 : (w2.alloc (.cells #[.int .i64 x1, .int .i64 x2] 26)).cell? ⟨w.heap.size, 4, none⟩ = some (.slice (some ⟨b, 0, none⟩) 2 cap) := by go_simp
  have q5 : (w2.alloc (.cells #[.int .i64 x1, .int .i64 x2] 26)).cell? ⟨b, 5, none⟩ = some (.string ob) := by go_simp
  have q6 : (w2.alloc (.cells #[.int .i64 x1, .int .i64 x2] 26)).cell? ⟨b, 6, none⟩ = some (.int .i64 b1) := by go_simp
  have q7 : (w2.alloc (.cells #[.int .i64 x1, .int .i64 x2] 26)).cell? ⟨b, 7, none⟩ = some (.int .i64 b2) := by go_simp
  have q8 : (w2.alloc (.cells #[.int .i64 x1, .int .i64 x2] 26)).cell? ⟨b, 8, none⟩ = some (.string nb) := by go_simp
  have q9 : (w2.alloc (.cells #[.int .i64 x1, .int .i64 x2] 26)).cell? ⟨b, 9, none⟩ = some (.slice bb lb cb) := by go_simp
  have q10 : (w2.alloc (.cells #[.int .i64 x1, .int .i64 x2] 26)).cell? ⟨w.heap.size + 1, 0, none⟩ = some (.int .i64 0) := by go_simp
  have q11 : (w2.alloc (.cells #[.int .i64 x1, .int .i64 x2] 26)).cell? ⟨w.heap.size + 1, 1, none⟩ = some (.int .i64 0) := by go_simp
  have r0 : (w2.alloc (.cells #[.int .i64 x1, .int .i64 x2] 26)).frozen? ⟨w.heap.size + 1, 0, none⟩ = false := by go_simp
  have r1 : (w2.alloc (.cells #[.int .i64 x1, .int .i64 x2] 26)).frozen? ⟨w.heap.size + 1, 1, none⟩ = false := by go_simp
  have s1 : w.heap.size + 1 < (w2.alloc (.cells #[.int .i64 x1, .int .i64 x2] 26)).heap.size := by have := hx1.size; simp; omega
  have s2 : w.heap.size < (w2.alloc (.cells #[.int .i64 x1, .int .i64 x2] 26)).heap.size := by omega
  have s3 : w1.heap.size < (w2.alloc (.cells #[.int .i64 x1, .int .i64 x2] 26)).heap.size := by simp; omega
  have s4 : w2.heap.size < (w2.alloc (.cells #[.int .i64 x1, .int .i64 x2] 26)).heap.size := by simp
  have s5 : b < (w2.alloc (.cells #[.int .i64 x1, .int .i64 x2] 26)).heap.size := by omega
  clear hc hf hc2 hf2 k0 k1 k2 k3 k4 k5 k6 k7 k8 k9 z1 z2 z3 z4 z5 z6 z7 z8 z9 z10 hz hz2 hb hb2 g1 g2 hbl v0 v1 v2 IA HF
  generalize (w2.alloc (.cells #[.int .i64 x1, .int .i64 x2] 26)) = W at *
  generalize w1.heap.size = b6 at *
  generalize w2.heap.size = b8 at *
  clear w1 w2
  refine Rr.wp_regionE [11] [(0, .y), (1, .y), (2, .y), (3, .y), (4, .y), (5, .y), (6, .y), (7, .y), (8, .y), (9, .y), (10, .y), (11, .y), (12, .m)] (fun _ => (.cells #[.int .i64 0, .int .i64 0] 26, Rg.ptr)) (fun c a d v w h => by have h' : _ ∧ _ := h; exact ⟨(Rr.put_defers a d v).symm.trans h'.1, h'.2⟩) (by kernel_rfl) (by kernel_rfl) ?_
  (refine Rr.wr_y (by simp only [List.getElem?_toArray, List.getElem?_cons_succ, List.getElem?_cons_zero]; rfl) (by rfl) ?_
   apply Exists.intro
   refine ⟨fun wz hw _ => ?_, ?_⟩
   · have hcz := hw.cells.1
     exact up_load117 (by rfl) ((hcz _ _ s3).trans q0) ((hcz _ _ s3).trans q1)
   simp only [Act.put, List.setIfInBounds_toArray, List.set_cons_zero, List.set_cons_succ])
  (refine Rr.wr_y (by simp only [List.getElem?_toArray, List.getElem?_cons_succ, List.getElem?_cons_zero]; rfl) (by rfl) ?_
   apply Exists.intro
   refine ⟨fun wz hw _ => ?_, ?_⟩
   · have hcz := hw.cells.1
     exact up_load26 (by rfl) ((hcz _ _ s4).trans q2) ((hcz _ _ s4).trans q3)
   simp only [Act.put, List.setIfInBounds_toArray, List.set_cons_zero, List.set_cons_succ])
  (refine Rr.wr_y (by simp only [List.getElem?_toArray, List.getElem?_cons_succ, List.getElem?_cons_zero]; rfl) (by rfl) ?_
   apply Exists.intro
   refine ⟨fun wz hw _ => ?_, ?_⟩
   · have hcz := hw.cells.1
     go_simp
     (with_reducible exact Rg.up_value)
   simp only [Act.put, List.setIfInBounds_toArray, List.set_cons_zero, List.set_cons_succ])
  (refine Rr.wr_y (by simp only [List.getElem?_toArray, List.getElem?_cons_succ, List.getElem?_cons_zero]; rfl) (by rfl) ?_
   apply Exists.intro
   refine ⟨fun wz hw _ => ?_, ?_⟩
   · have hcz := hw.cells.1
     go_simp
     (with_reducible exact Rg.up_value)
   simp only [Act.put, List.setIfInBounds_toArray, List.set_cons_zero, List.set_cons_succ])
  (refine Rr.wr_y (by simp only [List.getElem?_toArray, List.getElem?_cons_succ, List.getElem?_cons_zero]; rfl) (by rfl) ?_
   apply Exists.intro
   refine ⟨fun wz hw _ => ?_, ?_⟩
   · have hcz := hw.cells.1
     go_simp
     (with_reducible exact Rg.up_value)
   simp only [Act.put, List.setIfInBounds_toArray, List.set_cons_zero, List.set_cons_succ])
  (refine Rr.wr_y (by simp only [List.getElem?_toArray, List.getElem?_cons_succ, List.getElem?_cons_zero]; rfl) (by rfl) ?_
   apply Exists.intro
   refine ⟨fun wz hw _ => ?_, ?_⟩
   · have hcz := hw.cells.1
     exact up_load29 (by rfl) ((hcz _ _ s5).trans q5) ((hcz _ _ s5).trans q6) ((hcz _ _ s5).trans q7) ((hcz _ _ s5).trans q8) ((hcz _ _ s5).trans q9)
   simp only [Act.put, List.setIfInBounds_toArray, List.set_cons_zero, List.set_cons_succ])
  (refine Rr.wr_y (by simp only [List.getElem?_toArray, List.getElem?_cons_succ, List.getElem?_cons_zero]; rfl) (by rfl) ?_
   apply Exists.intro
   refine ⟨fun wz hw _ => ?_, ?_⟩
   · have hcz := hw.cells.1
     go_simp
     (with_reducible exact Rg.up_value)
   simp only [Act.put, List.setIfInBounds_toArray, List.set_cons_zero, List.set_cons_succ])
  (refine Rr.wr_y (by simp only [List.getElem?_toArray, List.getElem?_cons_succ, List.getElem?_cons_zero]; rfl) (by rfl) ?_
   apply Exists.intro
   refine ⟨fun wz hw _ => ?_, ?_⟩
   · have hcz := hw.cells.1
     go_simp
     apply Rg.up_enter
     (with_reducible refine (IB.out _ (by with_reducible repeat (first | exact Ext.refl _ | assumption | apply Ext.drewN | apply Ext.drew | apply Ext.alloc | (refine Ext.setCell ?_ (by simp <;> omega) _) | (refine Ext.trans ?_ (by assumption))))).mono ?_)
     rintro e w3 ⟨rfl, hb3⟩
     exact ⟨rfl, hb3⟩
   simp only [Act.put, List.setIfInBounds_toArray, List.set_cons_zero, List.set_cons_succ])
  (refine Rr.wr_y (by simp only [List.getElem?_toArray, List.getElem?_cons_succ, List.getElem?_cons_zero]; rfl) (by rfl) ?_
   apply Exists.intro
   refine ⟨fun wz hw _ => ?_, ?_⟩
   · have hcz := hw.cells.1
     go_simp
     apply Rg.up_enter
     (with_reducible refine (HA.out _).mono ?_)
     rintro e w3 ⟨rfl, hb3⟩
     exact ⟨rfl, hb3⟩
   simp only [Act.put, List.setIfInBounds_toArray, List.set_cons_zero, List.set_cons_succ])
  (refine Rr.wr_y (by simp only [List.getElem?_toArray, List.getElem?_cons_succ, List.getElem?_cons_zero]; rfl) (by rfl) ?_
   apply Exists.intro
   refine ⟨fun wz hw _ => ?_, ?_⟩
   · have hcz := hw.cells.1
     go_simp
     (with_reducible exact Rg.up_value)
   simp only [Act.put, List.setIfInBounds_toArray, List.set_cons_zero, List.set_cons_succ])
  (refine Rr.wr_y (by simp only [List.getElem?_toArray, List.getElem?_cons_succ, List.getElem?_cons_zero]; rfl) (by rfl) ?_
   apply Exists.intro
   refine ⟨fun wz hw _ => ?_, ?_⟩
   · have hcz := hw.cells.1
     go_simp
     (with_reducible exact Rg.up_value)
   simp only [Act.put, List.setIfInBounds_toArray, List.set_cons_zero, List.set_cons_succ])
  (refine Rr.wr_y (by simp only [List.getElem?_toArray, List.getElem?_cons_succ, List.getElem?_cons_zero]; rfl) (by rfl) ?_
   apply Exists.intro
   refine ⟨fun wz hw _ => ?_, ?_⟩
   · have hcz := hw.cells.1
     go_simp
     (with_reducible exact Rg.up_value)
   simp only [Act.put, List.setIfInBounds_toArray, List.set_cons_zero, List.set_cons_succ])
  refine Rr.wr_m (by simp only [List.getElem?_toArray, List.getElem?_cons_succ, List.getElem?_cons_zero]; rfl) (by rfl) (fun wz => by go_simp) (fun p hp => ?_)
  simp only [Act.put, List.setIfInBounds_toArray, List.set_cons_zero, List.set_cons_succ]
  refine Rr.wr_nil ?_
  intro wy hy hh
  obtain ⟨hp1, hp2⟩ := hh _ List.mem_cons_self
  obtain ⟨hcp, hfp, hpl⟩ := Rg.cells_of hp2
  obtain ⟨hcy, hfy⟩ := hy.cells
  simp only [List.length_cons, List.length_nil, List.drop_succ_cons, List.drop_zero, Nat.reduceAdd]
  have hpw : w.heap.size ≤ p := by omega
  have hxy : Ext w wy := hx1.trans hy
  by_cases hrf : rf = 0
  · subst hrf
    go_wp2
    have g0 := (hcy _ _ s1).trans q10
    have g1 := (hcy _ _ s1).trans q11
    have n1 : ¬ p = w.heap.size + 1 := by omega
    have n2 : ¬ w.heap.size + 1 = p := by omega
    exact bodyPost_ret (v := rv (u1, u2)) (by simp [results, Try.results45, go_sem, g0, g1, n1, n2]) rfl ⟨by rw [← HE.out]; rfl, (by with_reducible repeat (first | exact Ext.refl _ | assumption | apply Ext.drewN | apply Ext.drew | apply Ext.alloc | (refine Ext.setCell ?_ (by simp <;> omega) _) | (refine Ext.trans ?_ (by assumption))))⟩
  · go_wp2
    exact ⟨rfl, by rw [← HE.out, appE, if_neg hrf]; rfl, (by with_reducible repeat (first | exact Ext.refl _ | assumption | apply Ext.drewN | apply Ext.drew | apply Ext.alloc | (refine Ext.setCell ?_ (by simp <;> omega) _) | (refine Ext.trans ?_ (by assumption))))⟩
end Go.Proofs.Ytgkdeknfmmgbdaa
