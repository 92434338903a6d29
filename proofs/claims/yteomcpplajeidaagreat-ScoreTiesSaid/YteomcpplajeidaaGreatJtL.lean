/-
  Lemmas of this claim (JtL). Nothing is asked.
-/
import Derived.Test.YteomcpplajeidaaGreatJtK
import Derived.Test.YteomcpplajeidaaGreatBase
namespace Go.Proofs.YteomcpplajeidaaGreat
set_option linter.unusedVariables false
set_option linter.unusedSimpArgs false
set_option maxRecDepth 100000
open Go.RowKit
section
variable {ρ : Operand → Value} {d : Option Tmp} {x : Operand} {ty : TypeId} {ps : String} {af : Array Edge} {gd : Option (Nat × Bool)} {w : World} {b o : Nat}
theorem up_load29 {c0 c1 c2 c3 c4 : Value} (hx : ρ x = .pointer (some ⟨b, o, none⟩)) (h0 : w.cell? ⟨b, o, none⟩ = some c0) (h1 : w.cell? ⟨b, o + 1, none⟩ = some c1) (h2 : w.cell? ⟨b, o + 2, none⟩ = some c2) (h3 : w.cell? ⟨b, o + 3, none⟩ = some c3) (h4 : w.cell? ⟨b, o + 4, none⟩ = some c4) :
    Rg.up Tryz.prog w (.agg #[c0, c1, c2, c3, c4]) ((execOp ρ { dst := d, op := .load 33 x, type := ty, pos := ps, after := af, guard := gd }).run Tryz.prog w) := by
  simp only [execOp, hx]
  go_simp
  exact Rg.up_value
theorem up_load26 {c0 c1 : Value} (hx : ρ x = .pointer (some ⟨b, o, none⟩)) (h0 : w.cell? ⟨b, o, none⟩ = some c0) (h1 : w.cell? ⟨b, o + 1, none⟩ = some c1) :
    Rg.up Tryz.prog w (.agg #[c0, c1]) ((execOp ρ { dst := d, op := .load 30 x, type := ty, pos := ps, after := af, guard := gd }).run Tryz.prog w) := by
  simp only [execOp, hx]
  go_simp
  exact Rg.up_value
theorem up_load117 {c0 c1 : Value} (hx : ρ x = .pointer (some ⟨b, o, none⟩)) (h0 : w.cell? ⟨b, o, none⟩ = some c0) (h1 : w.cell? ⟨b, o + 1, none⟩ = some c1) :
    Rg.up Tryz.prog w (.agg #[c0, c1]) ((execOp ρ { dst := d, op := .load 202 x, type := ty, pos := ps, after := af, guard := gd }).run Tryz.prog w) := by
  simp only [execOp, hx]
  go_simp
  exact Rg.up_value
end
end Go.Proofs.YteomcpplajeidaaGreat
namespace Go.Proofs.YteomcpplajeidaaGreat
set_option linter.unusedVariables false
set_option linter.unusedSimpArgs false
set_option maxRecDepth 100000
open Go.RowKit
set_option maxRecDepth 100000 in
set_option maxHeartbeats 4000000 in
theorem value_op3 (S : Nat → Prop) (op : ByteArray) (n : Int × Int) (nm : ByteArray) (ta tb : Ex) (h0 : (op.toList == [110, 117, 109]) = false) (h : (op.toList == [110, 97, 109, 101]) = false) (hi : ¬ opIx op = -1)
    (vs : Vals) (w : World) (v sl : Value) (hv : Rd S w (.mk op n nm [ta, tb]) v) (hs : VRd S w vs sl) (ra rb : Except Int (Int × Int))
    (ia : ∀ (w : World) (v sl : Value), Rd S w ta v → VRd S w vs sl → Calls Tryz.prog 90 #[v, sl] w fun e w' => e = endE ra ∧ Ext w w')
    (ib : ∀ (w : World) (v sl : Value), Rd S w tb v → VRd S w vs sl → Calls Tryz.prog 90 #[v, sl] w fun e w' => e = endE rb ∧ Ext w w') (x y : Int × Int) (hra : ra = .ok x) (hrb : rb = .ok y) (r : (Int × Int) × Int)
    (hap : ∀ w, Calls Tryz.prog 138 #[.agg #[.string (opNm (opIx op).toNat), .func (.func (opFn (opIx op).toNat)) #[] #[]], rv x, rv y] w fun e w' => e = .returned (rev r) ∧ Ext w w') (E0 : Ending) (HE : Hid (endE (appE r) = E0)) :
    Calls Tryz.prog 90 #[v, sl] w fun e w' => e = E0 ∧ Ext w w' := by
  subst hra hrb
  unfold Rd at hv
  obtain ⟨base, cap, rfl, -, -, hr⟩ := hv
  rcases hr with hr | ⟨b, rfl, -, hl⟩
  · cases hr
  obtain ⟨c, hc, hra⟩ := hl.get 0 (by simp)
  obtain ⟨d, hd, hrb⟩ := hl.get 1 (by simp)
  obtain ⟨oa, a1, a2, na, ba, la, ca, c0, c1, c2, c3, c4, ea⟩ := hra.shape
  obtain ⟨ob, b1, b2, nb, bb, lb, cb, d0, d1, d2, d3, d4, eb⟩ := hrb.shape
  simp only [List.getElem_cons_zero, List.getElem_cons_succ] at hra hrb
  rw [ea] at hra
  rw [eb] at hrb
  have hbl : b < w.heap.size := World.block_lt_of_cell? w _ (hc 0 (by decide))
  have k0 := (hc 0 (by decide)).trans (congrArg some c0)
  have k1 := (hc 1 (by decide)).trans (congrArg some c1)
  have k2 := (hc 2 (by decide)).trans (congrArg some c2)
  have k3 := (hc 3 (by decide)).trans (congrArg some c3)
  have k4 := (hc 4 (by decide)).trans (congrArg some c4)
  have k5 := (hd 0 (by decide)).trans (congrArg some d0)
  have k6 := (hd 1 (by decide)).trans (congrArg some d1)
  have k7 := (hd 2 (by decide)).trans (congrArg some d2)
  have k8 := (hd 3 (by decide)).trans (congrArg some d3)
  have k9 := (hd 4 (by decide)).trans (congrArg some d4)
  simp only [Nat.zero_add, Nat.zero_mul, Nat.add_zero, Nat.one_mul, Nat.reduceAdd] at k0 k1 k2 k3 k4 k5 k6 k7 k8 k9
  have IA := Lib.hid (fun w' (hw : Ext w w') => ia w' _ sl (Rd.ext hw hra) (hs.ext hw))
  have IB := Lib.hid (fun w' (hw : Ext w w') => ib w' _ sl (Rd.ext hw hrb) (hs.ext hw))
  have HF := Lib.hid (find_some op hi)
  clear hc hd c0 c1 c2 c3 c4 d0 d1 d2 d3 d4 ea eb hra hrb hl ia ib hs
  have g1 : b < w.heap.size + 1 := by omega
  have g2 : b < w.heap.size + 1 + 1 := by omega
  simp only [endE] at IA IB
  obtain ⟨x1, x2⟩ := x
  obtain ⟨y1, y2⟩ := y
  obtain ⟨⟨u1, u2⟩, rf⟩ := r
  have HA := Lib.hid hap
  clear hap
  go_enter Tryz.func90, Tryz.ntmps90
  go_wp2_with (first
    | (go_at_call 137; (with_reducible refine (HF.out _).mono ?_); rintro e w1 ⟨rfl, hb⟩; obtain ⟨hc, hf⟩ := hb.cells; have hz := hb.size; simp at hz; have z1 : w.heap.size < w1.heap.size := (by omega); have z2 : b < w1.heap.size := (by omega))
    | (go_at_call 90; (with_reducible refine (IA.out _ (by with_reducible repeat (first | exact Ext.refl _ | assumption | apply Ext.drewN | apply Ext.drew | apply Ext.alloc | (refine Ext.setCell ?_ (by simp <;> omega) _) | (refine Ext.trans ?_ (by assumption))))).mono ?_); rintro e w2 ⟨rfl, hb2⟩; obtain ⟨hc2, hf2⟩ := hb2.cells; have hz2 := hb2.size; simp at hz2; have z3 : w.heap.size < w1.heap.size + 1 := (by omega); have z4 : b < w1.heap.size + 1 := (by omega); have z5 : w.heap.size < w2.heap.size := (by omega); have z6 : b < w2.heap.size := (by omega); have z7 : w1.heap.size < w2.heap.size := (by omega); have z8 : w.heap.size < w2.heap.size + 1 := (by omega); have z9 : b < w2.heap.size + 1 := (by omega); have z10 : w1.heap.size < w2.heap.size + 1 := (by omega)))
  have hx1 : Ext w (w2.alloc (.cells #[.int .i64 x1, .int .i64 x2] 30)) := (by with_reducible repeat (first | exact Ext.refl _ | assumption | apply Ext.drewN | apply Ext.drew | apply Ext.alloc | (refine Ext.setCell ?_ (by simp <;> omega) _) | (refine Ext.trans ?_ (by assumption))))
  have v0 : w.heap.size + 1 < w1.heap.size := by omega
  have v1 : w.heap.size + 1 < w2.heap.size := by omega
  have v2 : w.heap.size + 1 < w1.heap.size + 1 := by omega
  have q0 : (w2.alloc (.cells #[.int .i64 x1, .int .i64 x2] 30)).cell? ⟨w1.heap.size, 0, none⟩ = some (.string (opNm (opIx op).toNat)) := by go_simp
  have q1 : (w2.alloc (.cells #[.int .i64 x1, .int .i64 x2] 30)).cell? ⟨w1.heap.size, 1, none⟩ = some (.func (.func (opFn (opIx op).toNat)) #[] #[]) := by go_simp
  have q2 : (w2.alloc (.cells #[.int .i64 x1, .int .i64 x2] 30)).cell? ⟨w2.heap.size, 0, none⟩ = some (.int .i64 x1) := by go_simp
  have q3 : (w2.alloc (.cells #[.int .i64 x1, .int .i64 x2] 30)).cell? ⟨w2.heap.size, 1, none⟩ = some (.int .i64 x2) := by go_simp
  have q4 : (w2.alloc (.cells #[.int .i64 x1, .int .i64 x2] 30)).cell? ⟨w.heap.size, 4, none⟩ = some (.slice (some ⟨b, 0, none⟩) 2 cap) := by go_simp
  have q5 : (w2.alloc (.cells #[.int .i64 x1, .int .i64 x2] 30)).cell? ⟨b, 5, none⟩ = some (.string ob) := by go_simp
  have q6 : (w2.alloc (.cells #[.int .i64 x1, .int .i64 x2] 30)).cell? ⟨b, 6, none⟩ = some (.int .i64 b1) := by go_simp
  have q7 : (w2.alloc (.cells #[.int .i64 x1, .int .i64 x2] 30)).cell? ⟨b, 7, none⟩ = some (.int .i64 b2) := by go_simp
  have q8 : (w2.alloc (.cells #[.int .i64 x1, .int .i64 x2] 30)).cell? ⟨b, 8, none⟩ = some (.string nb) := by go_simp
  have q9 : (w2.alloc (.cells #[.int .i64 x1, .int .i64 x2] 30)).cell? ⟨b, 9, none⟩ = some (.slice bb lb cb) := by go_simp
  have q10 : (w2.alloc (.cells #[.int .i64 x1, .int .i64 x2] 30)).cell? ⟨w.heap.size + 1, 0, none⟩ = some (.int .i64 0) := by go_simp
  have q11 : (w2.alloc (.cells #[.int .i64 x1, .int .i64 x2] 30)).cell? ⟨w.heap.size + 1, 1, none⟩ = some (.int .i64 0) := by go_simp
  have r0 : (w2.alloc (.cells #[.int .i64 x1, .int .i64 x2] 30)).frozen? ⟨w.heap.size + 1, 0, none⟩ = false := by go_simp
  have r1 : (w2.alloc (.cells #[.int .i64 x1, .int .i64 x2] 30)).frozen? ⟨w.heap.size + 1, 1, none⟩ = false := by go_simp
  have s1 : w.heap.size + 1 < (w2.alloc (.cells #[.int .i64 x1, .int .i64 x2] 30)).heap.size := by have := hx1.size; simp; omega
  have s2 : w.heap.size < (w2.alloc (.cells #[.int .i64 x1, .int .i64 x2] 30)).heap.size := by omega
  have s3 : w1.heap.size < (w2.alloc (.cells #[.int .i64 x1, .int .i64 x2] 30)).heap.size := by simp; omega
  have s4 : w2.heap.size < (w2.alloc (.cells #[.int .i64 x1, .int .i64 x2] 30)).heap.size := by simp
  have s5 : b < (w2.alloc (.cells #[.int .i64 x1, .int .i64 x2] 30)).heap.size := by omega
  clear hc hf hc2 hf2 k0 k1 k2 k3 k4 k5 k6 k7 k8 k9 z1 z2 z3 z4 z5 z6 z7 z8 z9 z10 hz hz2 hb hb2 g1 g2 hbl v0 v1 v2 IA HF
  generalize (w2.alloc (.cells #[.int .i64 x1, .int .i64 x2] 30)) = W at *
  generalize w1.heap.size = b6 at *
  generalize w2.heap.size = b8 at *
  clear w1 w2
  refine Rr.wp_regionE [11] [(0, .y), (1, .y), (2, .y), (3, .y), (4, .y), (5, .y), (6, .y), (7, .y), (8, .y), (9, .y), (10, .y), (11, .y), (12, .m)] (fun _ => (.cells #[.int .i64 0, .int .i64 0] 30, Rg.ptr)) (fun c a d v w h => by have h' : _ ∧ _ := h; exact ⟨(Rr.put_defers a d v).symm.trans h'.1, h'.2⟩) (by kernel_rfl) (by kernel_rfl) ?_
  (refine Rr.wr_y (by simp only [List.getElem?_toArray, List.getElem?_cons_succ, List.getElem?_cons_zero]; rfl) (by rfl) ?_
   apply Exists.intro
   refine ⟨fun wz hw _ => ?_, ?_⟩
   · have hcz := hw.cells.1
     exact up_load117 (by rfl) ((hcz _ _ s3).trans q0) ((hcz _ _ s3).trans q1)
   simp only [Act.put, List.setIfInBounds_toArray, List.set_cons_zero, List.set_cons_succ])
  (refine Rr.wr_y (by simp only [List.getElem?_toArray, List.getElem?_cons_succ, List.getElem?_cons_zero]; rfl) (by rfl) ?_
   apply Exists.intro
   refine ⟨fun wz hw _ => ?_, ?_⟩
   · have hcz := hw.cells.1
     exact up_load26 (by rfl) ((hcz _ _ s4).trans q2) ((hcz _ _ s4).trans q3)
   simp only [Act.put, List.setIfInBounds_toArray, List.set_cons_zero, List.set_cons_succ])
  (refine Rr.wr_y (by simp only [List.getElem?_toArray, List.getElem?_cons_succ, List.getElem?_cons_zero]; rfl) (by rfl) ?_
   apply Exists.intro
   refine ⟨fun wz hw _ => ?_, ?_⟩
   · have hcz := hw.cells.1
     go_simp
     (with_reducible exact Rg.up_value)
   simp only [Act.put, List.setIfInBounds_toArray, List.set_cons_zero, List.set_cons_succ])
  (refine Rr.wr_y (by simp only [List.getElem?_toArray, List.getElem?_cons_succ, List.getElem?_cons_zero]; rfl) (by rfl) ?_
   apply Exists.intro
   refine ⟨fun wz hw _ => ?_, ?_⟩
   · have hcz := hw.cells.1
     go_simp
     (with_reducible exact Rg.up_value)
   simp only [Act.put, List.setIfInBounds_toArray, List.set_cons_zero, List.set_cons_succ])
  (refine Rr.wr_y (by simp only [List.getElem?_toArray, List.getElem?_cons_succ, List.getElem?_cons_zero]; rfl) (by rfl) ?_
   apply Exists.intro
   refine ⟨fun wz hw _ => ?_, ?_⟩
   · have hcz := hw.cells.1
     go_simp
     (with_reducible exact Rg.up_value)
   simp only [Act.put, List.setIfInBounds_toArray, List.set_cons_zero, List.set_cons_succ])
  (refine Rr.wr_y (by simp only [List.getElem?_toArray, List.getElem?_cons_succ, List.getElem?_cons_zero]; rfl) (by rfl) ?_
   apply Exists.intro
   refine ⟨fun wz hw _ => ?_, ?_⟩
   · have hcz := hw.cells.1
     exact up_load29 (by rfl) ((hcz _ _ s5).trans q5) ((hcz _ _ s5).trans q6) ((hcz _ _ s5).trans q7) ((hcz _ _ s5).trans q8) ((hcz _ _ s5).trans q9)
   simp only [Act.put, List.setIfInBounds_toArray, List.set_cons_zero, List.set_cons_succ])
  (refine Rr.wr_y (by simp only [List.getElem?_toArray, List.getElem?_cons_succ, List.getElem?_cons_zero]; rfl) (by rfl) ?_
   apply Exists.intro
   refine ⟨fun wz hw _ => ?_, ?_⟩
   · have hcz := hw.cells.1
     go_simp
     (with_reducible exact Rg.up_value)
   simp only [Act.put, List.setIfInBounds_toArray, List.set_cons_zero, List.set_cons_succ])
  (refine Rr.wr_y (by simp only [List.getElem?_toArray, List.getElem?_cons_succ, List.getElem?_cons_zero]; rfl) (by rfl) ?_
   apply Exists.intro
   refine ⟨fun wz hw _ => ?_, ?_⟩
   · have hcz := hw.cells.1
     go_simp
     apply Rg.up_enter
     (with_reducible refine (IB.out _ (by with_reducible repeat (first | exact Ext.refl _ | assumption | apply Ext.drewN | apply Ext.drew | apply Ext.alloc | (refine Ext.setCell ?_ (by simp <;> omega) _) | (refine Ext.trans ?_ (by assumption))))).mono ?_)
     rintro e w3 ⟨rfl, hb3⟩
     exact ⟨rfl, hb3⟩
   simp only [Act.put, List.setIfInBounds_toArray, List.set_cons_zero, List.set_cons_succ])
  (refine Rr.wr_y (by simp only [List.getElem?_toArray, List.getElem?_cons_succ, List.getElem?_cons_zero]; rfl) (by rfl) ?_
   apply Exists.intro
   refine ⟨fun wz hw _ => ?_, ?_⟩
   · have hcz := hw.cells.1
     go_simp
     apply Rg.up_enter
     (with_reducible refine (HA.out _).mono ?_)
     rintro e w3 ⟨rfl, hb3⟩
     exact ⟨rfl, hb3⟩
   simp only [Act.put, List.setIfInBounds_toArray, List.set_cons_zero, List.set_cons_succ])
  (refine Rr.wr_y (by simp only [List.getElem?_toArray, List.getElem?_cons_succ, List.getElem?_cons_zero]; rfl) (by rfl) ?_
   apply Exists.intro
   refine ⟨fun wz hw _ => ?_, ?_⟩
   · have hcz := hw.cells.1
     go_simp
     (with_reducible exact Rg.up_value)
   simp only [Act.put, List.setIfInBounds_toArray, List.set_cons_zero, List.set_cons_succ])
  (refine Rr.wr_y (by simp only [List.getElem?_toArray, List.getElem?_cons_succ, List.getElem?_cons_zero]; rfl) (by rfl) ?_
   apply Exists.intro
   refine ⟨fun wz hw _ => ?_, ?_⟩
   · have hcz := hw.cells.1
     go_simp
     (with_reducible exact Rg.up_value)
   simp only [Act.put, List.setIfInBounds_toArray, List.set_cons_zero, List.set_cons_succ])
  (refine Rr.wr_y (by simp only [List.getElem?_toArray, List.getElem?_cons_succ, List.getElem?_cons_zero]; rfl) (by rfl) ?_
   apply Exists.intro
   refine ⟨fun wz hw _ => ?_, ?_⟩
   · have hcz := hw.cells.1
     go_simp
     (with_reducible exact Rg.up_value)
   simp only [Act.put, List.setIfInBounds_toArray, List.set_cons_zero, List.set_cons_succ])
  refine Rr.wr_m (by simp only [List.getElem?_toArray, List.getElem?_cons_succ, List.getElem?_cons_zero]; rfl) (by rfl) (fun wz => by go_simp) (fun p hp => ?_)
  simp only [Act.put, List.setIfInBounds_toArray, List.set_cons_zero, List.set_cons_succ]
  refine Rr.wr_nil ?_
  intro wy hy hh
  obtain ⟨hp1, hp2⟩ := hh _ List.mem_cons_self
  obtain ⟨hcp, hfp, hpl⟩ := Rg.cells_of hp2
  obtain ⟨hcy, hfy⟩ := hy.cells
  simp only [List.length_cons, List.length_nil, List.drop_succ_cons, List.drop_zero, Nat.reduceAdd]
  have hpw : w.heap.size ≤ p := by omega
  have hxy : Ext w wy := hx1.trans hy
  by_cases hrf : rf = 0
  · subst hrf
    go_wp2
    have g0 := (hcy _ _ s1).trans q10
    have g1 := (hcy _ _ s1).trans q11
    have n1 : ¬ p = w.heap.size + 1 := by omega
    have n2 : ¬ w.heap.size + 1 = p := by omega
    exact bodyPost_ret (v := rv (u1, u2)) (by simp [results, Tryz.results90, go_sem, g0, g1, n1, n2]) rfl ⟨by rw [← HE.out]; rfl, (by with_reducible repeat (first | exact Ext.refl _ | assumption | apply Ext.drewN | apply Ext.drew | apply Ext.alloc | (refine Ext.setCell ?_ (by simp <;> omega) _) | (refine Ext.trans ?_ (by assumption))))⟩
  · go_wp2
    exact ⟨rfl, by rw [← HE.out, appE, if_neg hrf]; rfl, (by with_reducible repeat (first | exact Ext.refl _ | assumption | apply Ext.drewN | apply Ext.drew | apply Ext.alloc | (refine Ext.setCell ?_ (by simp <;> omega) _) | (refine Ext.trans ?_ (by assumption))))⟩
end Go.Proofs.YteomcpplajeidaaGreat
namespace Go.Proofs.YteomcpplajeidaaGreat
set_option linter.unusedVariables false
set_option linter.unusedSimpArgs false
set_option maxRecDepth 100000
namespace Dv
def Q (a b u l : Int) : Int := (u * 4294967296 + l) / (a * 4294967296 + b)
structure Hyp (a b u l : Int) : Prop where
  a1 : 2147483648 ≤ a
  a2 : a < 4294967296
  b1 : 0 ≤ b
  b2 : b < 4294967296
  u1 : 0 ≤ u
  u2 : u < a * 4294967296 + b
  l1 : 0 ≤ l
  l2 : l < 4294967296
structure Inv (a b u l q r : Int) : Prop where
  eq : q * a + r = u
  r0 : 0 ≤ r
  ge : Q a b u l ≤ q
  le : q ≤ 4294967297
section
variable {a b u l q r : Int}
theorem Hyp.pos (h : Hyp a b u l) : 0 < a * 4294967296 + b := by have := h.a1; have := h.b1; omega
theorem Hyp.nn (h : Hyp a b u l) : 0 ≤ Q a b u l := Int.ediv_nonneg (by have := h.u1; have := h.l1; omega) (by have := h.pos; omega)
theorem Hyp.mul_le (h : Hyp a b u l) : Q a b u l * (a * 4294967296 + b) ≤ u * 4294967296 + l := Int.ediv_mul_le _ (by have := h.pos; omega)
theorem Hyp.lt (h : Hyp a b u l) : Q a b u l < 4294967296 := by
  refine (Int.ediv_lt_iff_lt_mul h.pos).2 ?_
  have := h.u2; have := h.l2
  omega
theorem dist (q a b : Int) : q * (a * 4294967296 + b) = q * a * 4294967296 + q * b := by
  rw [Int.mul_add, Int.mul_assoc]
theorem Inv.start (h : Hyp a b u l) : Inv a b u l (u / a) (u - u / a * a) := by
  have ha : 0 < a := by have := h.a1; omega
  refine ⟨by omega, ?_, ?_, ?_⟩
  · have := Int.ediv_mul_le u (b := a) (by omega)
    omega
  · refine (Int.le_ediv_iff_mul_le ha).2 ?_
    have h1 := h.mul_le
    have h2 := Int.mul_nonneg h.nn h.b1
    have h3 := h.l2
    rw [dist] at h1
    generalize Q a b u l * a = P at *
    generalize Q a b u l * b = M at *
    omega
  · have h1 : u / a < 4294967298 := by
      refine (Int.ediv_lt_iff_lt_mul ha).2 ?_
      have := h.u2; have := h.b2; have := h.a1
      omega
    omega
theorem start_lt (h : Hyp a b u l) : u - u / a * a < 4294967296 := by
  have ha : 0 < a := by have := h.a1; omega
  have := Int.lt_ediv_add_one_mul_self u ha
  rw [Int.add_mul] at this
  have := h.a2
  omega
theorem Inv.down (h : Hyp a b u l) (i : Inv a b u l q r) (hc : 4294967296 ≤ q ∨ 4294967296 * r + l < q * b) : Inv a b u l (q - 1) (r + a) := by
  have e : (q - 1) * a = q * a - a := by rw [Int.sub_mul, Int.one_mul]
  have i1 := i.eq
  refine ⟨by rw [e]; omega, by have := i.r0; have := h.a1; omega, ?_, by have := i.le; omega⟩
  have : Q a b u l < q := by
    rcases hc with hc | hc
    · have := h.lt
      omega
    · refine (Int.ediv_lt_iff_lt_mul h.pos).2 ?_
      rw [dist]
      generalize q * a = P at *
      generalize q * b = M at *
      omega
  omega
theorem Inv.stop (h : Hyp a b u l) (i : Inv a b u l q r) (hc : q * b ≤ 4294967296 * r + l) : q = Q a b u l := by
  have i1 := i.eq
  have i2 := i.ge
  have : q ≤ Q a b u l := by
    refine (Int.le_ediv_iff_mul_le h.pos).2 ?_
    rw [dist]
    generalize q * a = P at *
    generalize q * b = M at *
    omega
  omega
theorem mul_bd (h : Hyp a b u l) (h0 : 0 ≤ q) (hq : q ≤ 4294967296) : 0 ≤ q * b ∧ q * b ≤ 18446744069414584320 := by
  refine ⟨Int.mul_nonneg h0 h.b1, ?_⟩
  have h1 := Int.mul_le_mul_of_nonneg_right hq h.b1
  have := h.b2
  omega
theorem Inv.leave (h : Hyp a b u l) (i : Inv a b u l q r) (hq : q ≤ 4294967296) (hr : 4294967296 ≤ r) : q = Q a b u l := by
  have h0 : 0 ≤ q := by have := i.ge; have := h.nn; omega
  have := mul_bd h h0 hq
  have := h.l1
  exact i.stop h (by omega)
theorem rest (h : Hyp a b u l) : u * 4294967296 + l - Q a b u l * (a * 4294967296 + b) = (u * 4294967296 + l) % (a * 4294967296 + b) := by
  have := Int.emod_add_mul_ediv (u * 4294967296 + l) (a * 4294967296 + b)
  rw [Int.mul_comm (a * 4294967296 + b)] at this
  show _ - (u * 4294967296 + l) / (a * 4294967296 + b) * (a * 4294967296 + b) = _
  omega
theorem rest_bd (h : Hyp a b u l) : 0 ≤ u * 4294967296 + l - Q a b u l * (a * 4294967296 + b) ∧ u * 4294967296 + l - Q a b u l * (a * 4294967296 + b) < a * 4294967296 + b := by
  rw [rest h]
  exact ⟨Int.emod_nonneg _ (by have := h.pos; omega), Int.emod_lt_of_pos _ h.pos⟩
end
theorem two {a b u l1 l0 : Int} (h : Hyp a b u l1) (k : Hyp a b (u * 4294967296 + l1 - Q a b u l1 * (a * 4294967296 + b)) l0) :
    Q a b u l1 * 4294967296 + Q a b (u * 4294967296 + l1 - Q a b u l1 * (a * 4294967296 + b)) l0 = (u * 18446744073709551616 + (l1 * 4294967296 + l0)) / (a * 4294967296 + b) ∧
    (u * 4294967296 + l1 - Q a b u l1 * (a * 4294967296 + b)) * 4294967296 + l0 - Q a b (u * 4294967296 + l1 - Q a b u l1 * (a * 4294967296 + b)) l0 * (a * 4294967296 + b) = (u * 18446744073709551616 + (l1 * 4294967296 + l0)) % (a * 4294967296 + b) := by
  have hp := h.pos
  have kb := rest_bd k
  generalize hR : u * 4294967296 + l1 - Q a b u l1 * (a * 4294967296 + b) = R at *
  generalize hq1 : Q a b u l1 = q1 at *
  generalize hq0 : Q a b R l0 = q0 at *
  generalize a * 4294967296 + b = y at *
  have e1 : (q1 * 4294967296 + q0) * y = q1 * y * 4294967296 + q0 * y := by
    rw [Int.add_mul, Int.mul_right_comm]
  have e2 : u * 18446744073709551616 + (l1 * 4294967296 + l0) = (R * 4294967296 + l0 - q0 * y) + y * (q1 * 4294967296 + q0) := by
    rw [Int.mul_comm y, e1]
    generalize q1 * y = A at *
    generalize q0 * y = B at *
    omega
  rw [e2]
  exact ⟨by rw [Int.add_mul_ediv_left _ _ (by omega), Int.ediv_eq_zero_of_lt kb.1 kb.2]; omega, by rw [Int.add_mul_emod_self_left, Int.emod_eq_of_lt kb.1 kb.2]⟩
theorem whole {hi lo y c d : Int} (hc : 0 < c) (hd : c * d = 18446744073709551616) (hd0 : 0 < d) (h0 : 0 < y) :
    ((hi * c + lo / d) * 18446744073709551616 + lo * c % 18446744073709551616) / (y * c) = (hi * 18446744073709551616 + lo) / y ∧
    ((hi * c + lo / d) * 18446744073709551616 + lo * c % 18446744073709551616) % (y * c) / c = (hi * 18446744073709551616 + lo) % y := by
  have e1 : lo * c / 18446744073709551616 = lo / d := by
    rw [← hd, Int.mul_comm lo c]
    exact Int.mul_ediv_mul_of_pos _ _ hc
  have e2 : (hi * c + lo / d) * 18446744073709551616 + lo * c % 18446744073709551616 = c * (hi * 18446744073709551616 + lo) := by
    rw [← e1, Int.mul_add, Int.add_mul]
    have := Int.emod_add_mul_ediv (lo * c) 18446744073709551616
    rw [Int.mul_comm c lo, ← Int.mul_assoc, Int.mul_comm c hi]
    omega
  rw [e2, Int.mul_comm y c]
  exact ⟨Int.mul_ediv_mul_of_pos _ _ hc, by rw [Int.mul_emod_mul_of_pos _ _ hc, Int.mul_ediv_cancel_left _ (by omega)]⟩
end Dv
end Go.Proofs.YteomcpplajeidaaGreat
