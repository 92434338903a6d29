/-
  Joined: the lemmas of this claim that other texts of it use, part 3. Nothing is asked.
-/
import Derived.Test.YtgkdeknfmmgbdaaJnB
import Derived.Lib.Strings
import Derived.Lib.Slices
import Derived.Lib.Small
import Derived.Lib.Walk
import Derived.Lib.BitFns
import Derived.Deep.CutBlock
import Derived.Defers
import Derived.Recover
import Derived.Laws.Pointers
namespace Go.Proofs.Ytgkdeknfmmgbdaa
set_option linter.unusedVariables false
set_option linter.unusedSimpArgs false
open Go.RowKit

set_option maxRecDepth 100000 in
set_option maxHeartbeats 4000000 in
theorem value_op3 (S : Nat → Prop) (op : ByteArray) (n : Int × Int) (nm : ByteArray) (ta tb : Ex) (h0 : (op.toList == [110, 117, 109]) = false) (h : (op.toList == [110, 97, 109, 101]) = false) (hi : ¬ opIx op = -1)
    (vs : Vals) (w : World) (v sl : Value) (hv : Rd S w (.mk op n nm [ta, tb]) v) (hs : VRd S w vs sl) (ra rb : Except Int (Int × Int))
    (ia : ∀ (w : World) (v sl : Value), Rd S w ta v → VRd S w vs sl → Calls Try.prog 45 #[v, sl] w fun e w' => e = endE ra ∧ Ext w w')
    (ib : ∀ (w : World) (v sl : Value), Rd S w tb v → VRd S w vs sl → Calls Try.prog 45 #[v, sl] w fun e w' => e = endE rb ∧ Ext w w') (x y : Int × Int) (hra : ra = .ok x) (hrb : rb = .ok y) (r : (Int × Int) × Int)
    (hap : ∀ w, Calls Try.prog 74 #[.agg #[.string (opNm (opIx op).toNat), .func (.func (opFn (opIx op).toNat)) #[] #[]], rv x, rv y] w fun e w' => e = .returned (rev r) ∧ Ext w w') (E0 : Ending) (HE : Hid (endE (appE r) = E0)) :
    Calls Try.prog 45 #[v, sl] w fun e w' => e = E0 ∧ Ext w w' := by
  subst hra hrb
  unfold Rd at hv
  obtain ⟨base, cap, rfl, -, -, hr⟩ := hv
  rcases hr with hr | ⟨b, rfl, -, hl⟩
  · cases hr
  obtain ⟨c, hc, hra⟩ := hl.get 0 (by simp)
  obtain ⟨d, hd, hrb⟩ := hl.get 1 (by simp)
  obtain ⟨oa, a1, a2, na, ba, la, ca, c0, c1, c2, c3, c4, ea⟩ := hra.shape
  obtain ⟨ob, b1, b2, nb, bb, lb, cb, d0, d1, d2, d3, d4, eb⟩ := hrb.shape
  simp only [List.getElem_cons_zero, List.getElem_cons_succ] at hra hrb
  rw [ea] at hra
  rw [eb] at hrb
  have hbl : b < w.heap.size := World.block_lt_of_cell? w _ (hc 0 (by decide))
  have k0 := (hc 0 (by decide)).trans (congrArg some c0)
  have k1 := (hc 1 (by decide)).trans (congrArg some c1)
  have k2 := (hc 2 (by decide)).trans (congrArg some c2)
  have k3 := (hc 3 (by decide)).trans (congrArg some c3)
  have k4 := (hc 4 (by decide)).trans (congrArg some c4)
  have k5 := (hd 0 (by decide)).trans (congrArg some d0)
  have k6 := (hd 1 (by decide)).trans (congrArg some d1)
  have k7 := (hd 2 (by decide)).trans (congrArg some d2)
  have k8 := (hd 3 (by decide)).trans (congrArg some d3)
  have k9 := (hd 4 (by decide)).trans (congrArg some d4)
  simp only [Nat.zero_add, Nat.zero_mul, Nat.add_zero, Nat.one_mul, Nat.reduceAdd] at k0 k1 k2 k3 k4 k5 k6 k7 k8 k9
  have IA := Lib.hid (fun w' (hw : Ext w w') => ia w' _ sl (Rd.ext hw hra) (hs.ext hw))
  have IB := Lib.hid (fun w' (hw : Ext w w') => ib w' _ sl (Rd.ext hw hrb) (hs.ext hw))
  have HF := Lib.hid (find_some op hi)
  clear hc hd c0 c1 c2 c3 c4 d0 d1 d2 d3 d4 ea eb hra hrb hl ia ib hs
  have g1 : b < w.heap.size + 1 := by omega
  have g2 : b < w.heap.size + 1 + 1 := by omega
  simp only [endE] at IA IB
  obtain ⟨x1, x2⟩ := x
  obtain ⟨y1, y2⟩ := y
  obtain ⟨⟨u1, u2⟩, rf⟩ := r
  have HA := Lib.hid hap
  clear hap
  go_enter Try.func45, Try.ntmps45
  go_wp2_with (first
    | (go_at_call 73; (with_reducible refine (HF.out _).mono ?_); rintro e w1 ⟨rfl, hb⟩; obtain ⟨hc, hf⟩ := hb.cells; have hz := hb.size; simp at hz; have z1 : w.heap.size < w1.heap.size := (by omega); have z2 : b < w1.heap.size := (by omega))
    | (go_at_call 45; (with_reducible refine (IA.out _ (by with_reducible repeat (first | exact Ext.refl _ | assumption | apply Ext.drewN | apply Ext.drew | apply Ext.alloc | (refine Ext.setCell ?_ (by simp <;> omega) _) | (refine Ext.trans ?_ (by assumption))))).mono ?_); rintro e w2 ⟨rfl, hb2⟩; obtain ⟨hc2, hf2⟩ := hb2.cells; have hz2 := hb2.size; simp at hz2; have z3 : w.heap.size < w1.heap.size + 1 := (by omega); have z4 : b < w1.heap.size + 1 := (by omega); have z5 : w.heap.size < w2.heap.size := (by omega); have z6 : b < w2.heap.size := (by omega); have z7 : w1.heap.size < w2.heap.size := (by omega); have z8 : w.heap.size < w2.heap.size + 1 := (by omega); have z9 : b < w2.heap.size + 1 := (by omega); have z10 : w1.heap.size < w2.heap.size + 1 := (by omega)))
  have hx1 : Ext w (w2.alloc (.cells #[.int .i64 x1, .int .i64 x2] 26)) := (by with_reducible repeat (first | exact Ext.refl _ | assumption | apply Ext.drewN | apply Ext.drew | apply Ext.alloc | (refine Ext.setCell ?_ (by simp <;> omega) _) | (refine Ext.trans ?_ (by assumption))))
  have v0 : w.heap.size + 1 < w1.heap.size := by omega
  have v1 : w.heap.size + 1 < w2.heap.size := by omega
  have v2 : w.heap.size + 1 < w1.heap.size + 1 := by omega
  have q0 : (w2.alloc (.cells #[.int .i64 x1, .int .i64 x2] 26)).cell? ⟨w1.heap.size, 0, none⟩ = some (.string (opNm (opIx op).toNat)) := by go_simp
  have q1 : (w2.alloc (.cells #[.int .i64 x1, .int .i64 x2] 26)).cell? ⟨w1.heap.size, 1, none⟩ = some (.func (.func (opFn (opIx op).toNat)) #[] #[]) := by go_simp
  have q2 : (w2.alloc (.cells #[.int .i64 x1, .int .i64 x2] 26)).cell? ⟨w2.heap.size, 0, none⟩ = some (.int .i64 x1) := by go_simp
  have q3 : (w2.alloc (.cells #[.int .i64 x1, .int .i64 x2] 26)).cell? ⟨w2.heap.size, 1, none⟩ = some (.int .i64 x2) := by go_simp
  have q4 : (w2.alloc (.cells #[.int .i64 x1, .int .i64 x2] 26)).cell? ⟨w.heap.size, 4, none⟩ = some (.slice (some ⟨b, 0, none⟩) 2 cap) := by go_simp
  have q5 : (w2.alloc (.cells #[.int .i64 x1, .int .i64 x2] 26)).cell? ⟨b, 5, none⟩ = some (.string ob) := by go_simp
  have q6 : (w2.alloc (.cells #[.int .i64 x1, .int .i64 x2] 26)).cell? ⟨b, 6, none⟩ = some (.int .i64 b1) := by go_simp
  have q7 : (w2.alloc (.cells #[.int .i64 x1, .int .i64 x2] 26)).cell? ⟨b, 7, none⟩ = some (.int .i64 b2) := by go_simp
  have q8 : (w2.alloc (.cells #[.int .i64 x1, .int .i64 x2] 26)).cell? ⟨b, 8, none⟩ = some (.string nb) := by go_simp
  have q9 : (w2.alloc (.cells #[.int .i64 x1, .int .i64 x2] 26)).cell? ⟨b, 9, none⟩ = some (.slice bb lb cb) := by go_simp
  have q10 : (w2.alloc (.cells #[.int .i64 x1, .int .i64 x2] 26)).cell? ⟨w.heap.size + 1, 0, none⟩ = some (.int .i64 0) := by go_simp
  have q11 : (w2.alloc (.cells #[.int .i64 x1, .int .i64 x2] 26)).cell? ⟨w.heap.size + 1, 1, none⟩ = some (.int .i64 0) := by go_simp
  have r0 : (w2.alloc (.cells #[.int .i64 x1, .int .i64 x2] 26)).frozen? ⟨w.heap.size + 1, 0, none⟩ = false := by go_simp
  have r1 : (w2.alloc (.cells #[.int .i64 x1, .int .i64 x2] 26)).frozen? ⟨w.heap.size + 1, 1, none⟩ = false := by go_simp
  have s1 : w.heap.size + 1 < (w2.alloc (.cells #[.int .i64 x1, .int .i64 x2] 26)).heap.size := by have := hx1.size; simp; omega
  have s2 : w.heap.size < (w2.alloc (.cells #[.int .i64 x1, .int .i64 x2] 26)).heap.size := by omega
  have s3 : w1.heap.size < (w2.alloc (.cells #[.int .i64 x1, .int .i64 x2] 26)).heap.size := by simp; omega
  have s4 : w2.heap.size < (w2.alloc (.cells #[.int .i64 x1, .int .i64 x2] 26)).heap.size := by simp
  have s5 : b < (w2.alloc (.cells #[.int .i64 x1, .int .i64 x2] 26)).heap.size := by omega
  clear hc hf hc2 hf2 k0 k1 k2 k3 k4 k5 k6 k7 k8 k9 z1 z2 z3 z4 z5 z6 z7 z8 z9 z10 hz hz2 hb hb2 g1 g2 hbl v0 v1 v2 IA HF
  generalize (w2.alloc (.cells #[.int .i64 x1, .int .i64 x2] 26)) = W at *
  generalize w1.heap.size = b6 at *
  generalize w2.heap.size = b8 at *
  clear w1 w2
  refine Rr.wp_regionE [11] [(0, .y), (1, .y), (2, .y), (3, .y), (4, .y), (5, .y), (6, .y), (7, .y), (8, .y), (9, .y), (10, .y), (11, .y), (12, .m)] (fun _ => (.cells #[.int .i64 0, .int .i64 0] 26, Rg.ptr)) (fun c a d v w h => by have h' : _ ∧ _ := h; exact ⟨(Rr.put_defers a d v).symm.trans h'.1, h'.2⟩) (by kernel_rfl) (by kernel_rfl) ?_
  (refine Rr.wr_y (by simp only [List.getElem?_toArray, List.getElem?_cons_succ, List.getElem?_cons_zero]; rfl) (by rfl) ?_
   apply Exists.intro
   refine ⟨fun wz hw _ => ?_, ?_⟩
   · have hcz := hw.cells.1
     exact up_load117 (by rfl) ((hcz _ _ s3).trans q0) ((hcz _ _ s3).trans q1)
   simp only [Act.put, List.setIfInBounds_toArray, List.set_cons_zero, List.set_cons_succ])
  (refine Rr.wr_y (by simp only [List.getElem?_toArray, List.getElem?_cons_succ, List.getElem?_cons_zero]; rfl) (by rfl) ?_
   apply Exists.intro
   refine ⟨fun wz hw _ => ?_, ?_⟩
   · have hcz := hw.cells.1
     exact up_load26 (by rfl) ((hcz _ _ s4).trans q2) ((hcz _ _ s4).trans q3)
   simp only [Act.put, List.setIfInBounds_toArray, List.set_cons_zero, List.set_cons_succ])
  (refine Rr.wr_y (by simp only [List.getElem?_toArray, List.getElem?_cons_succ, List.getElem?_cons_zero]; rfl) (by rfl) ?_
   apply Exists.intro
   refine ⟨fun wz hw _ => ?_, ?_⟩
   · have hcz := hw.cells.1
     go_simp
     (with_reducible exact Rg.up_value)
   simp only [Act.put, List.setIfInBounds_toArray, List.set_cons_zero, List.set_cons_succ])
  (refine Rr.wr_y (by simp only [List.getElem?_toArray, List.getElem?_cons_succ, List.getElem?_cons_zero]; rfl) (by rfl) ?_
   apply Exists.intro
   refine ⟨fun wz hw _ => ?_, ?_⟩
   · have hcz := hw.cells.1
     go_simp
     (with_reducible exact Rg.up_value)
   simp only [Act.put, List.setIfInBounds_toArray, List.set_cons_zero, List.set_cons_succ])
  (refine Rr.wr_y (by simp only [List.getElem?_toArray, List.getElem?_cons_succ, List.getElem?_cons_zero]; rfl) (by rfl) ?_
   apply Exists.intro
   refine ⟨fun wz hw _ => ?_, ?_⟩
   · have hcz := hw.cells.1
     go_simp
     (with_reducible exact Rg.up_value)
   simp only [Act.put, List.setIfInBounds_toArray, List.set_cons_zero, List.set_cons_succ])
  (refine Rr.wr_y (by simp only [List.getElem?_toArray, List.getElem?_cons_succ, List.getElem?_cons_zero]; rfl) (by rfl) ?_
   apply Exists.intro
   refine ⟨fun wz hw _ => ?_, ?_⟩
   · have hcz := hw.cells.1
     exact up_load29 (by rfl) ((hcz _ _ s5).trans q5) ((hcz _ _ s5).trans q6) ((hcz _ _ s5).trans q7) ((hcz _ _ s5).trans q8) ((hcz _ _ s5).trans q9)
   simp only [Act.put, List.setIfInBounds_toArray, List.set_cons_zero, List.set_cons_succ])
  (refine Rr.wr_y (by simp only [List.getElem?_toArray, List.getElem?_cons_succ, List.getElem?_cons_zero]; rfl) (by rfl) ?_
   apply Exists.intro
   refine ⟨fun wz hw _ => ?_, ?_⟩
   · have hcz := hw.cells.1
     go_simp
     (with_reducible exact Rg.up_value)
   simp only [Act.put, List.setIfInBounds_toArray, List.set_cons_zero, List.set_cons_succ])
  (refine Rr.wr_y (by simp only [List.getElem?_toArray, List.getElem?_cons_succ, List.getElem?_cons_zero]; rfl) (by rfl) ?_
   apply Exists.intro
   refine ⟨fun wz hw _ => ?_, ?_⟩
   · have hcz := hw.cells.1
     go_simp
     apply Rg.up_enter
     (with_reducible refine (IB.out _ (by with_reducible repeat (first | exact Ext.refl _ | assumption | apply Ext.drewN | apply Ext.drew | apply Ext.alloc | (refine Ext.setCell ?_ (by simp <;> omega) _) | (refine Ext.trans ?_ (by assumption))))).mono ?_)
     rintro e w3 ⟨rfl, hb3⟩
     exact ⟨rfl, hb3⟩
   simp only [Act.put, List.setIfInBounds_toArray, List.set_cons_zero, List.set_cons_succ])
  (refine Rr.wr_y (by simp only [List.getElem?_toArray, List.getElem?_cons_succ, List.getElem?_cons_zero]; rfl) (by rfl) ?_
   apply Exists.intro
   refine ⟨fun wz hw _ => ?_, ?_⟩
   · have hcz := hw.cells.1
     go_simp
     apply Rg.up_enter
     (with_reducible refine (HA.out _).mono ?_)
     rintro e w3 ⟨rfl, hb3⟩
     exact ⟨rfl, hb3⟩
   simp only [Act.put, List.setIfInBounds_toArray, List.set_cons_zero, List.set_cons_succ])
  (refine Rr.wr_y (by simp only [List.getElem?_toArray, List.getElem?_cons_succ, List.getElem?_cons_zero]; rfl) (by rfl) ?_
   apply Exists.intro
   refine ⟨fun wz hw _ => ?_, ?_⟩
   · have hcz := hw.cells.1
     go_simp
     (with_reducible exact Rg.up_value)
   simp only [Act.put, List.setIfInBounds_toArray, List.set_cons_zero, List.set_cons_succ])
  (refine Rr.wr_y (by simp only [List.getElem?_toArray, List.getElem?_cons_succ, List.getElem?_cons_zero]; rfl) (by rfl) ?_
   apply Exists.intro
   refine ⟨fun wz hw _ => ?_, ?_⟩
   · have hcz := hw.cells.1
     go_simp
     (with_reducible exact Rg.up_value)
   simp only [Act.put, List.setIfInBounds_toArray, List.set_cons_zero, List.set_cons_succ])
  (refine Rr.wr_y (by simp only [List.getElem?_toArray, List.getElem?_cons_succ, List.getElem?_cons_zero]; rfl) (by rfl) ?_
   apply Exists.intro
   refine ⟨fun wz hw _ => ?_, ?_⟩
   · have hcz := hw.cells.1
     go_simp
     (with_reducible exact Rg.up_value)
   simp only [Act.put, List.setIfInBounds_toArray, List.set_cons_zero, List.set_cons_succ])
  refine Rr.wr_m (by simp only [List.getElem?_toArray, List.getElem?_cons_succ, List.getElem?_cons_zero]; rfl) (by rfl) (fun wz => by go_simp) (fun p hp => ?_)
  simp only [Act.put, List.setIfInBounds_toArray, List.set_cons_zero, List.set_cons_succ]
  refine Rr.wr_nil ?_
  intro wy hy hh
  obtain ⟨hp1, hp2⟩ := hh _ List.mem_cons_self
  obtain ⟨hcp, hfp, hpl⟩ := Rg.cells_of hp2
  obtain ⟨hcy, hfy⟩ := hy.cells
  simp only [List.length_cons, List.length_nil, List.drop_succ_cons, List.drop_zero, Nat.reduceAdd]
  have hpw : w.heap.size ≤ p := by omega
  have hxy : Ext w wy := hx1.trans hy
  by_cases hrf : rf = 0
  · subst hrf
    go_wp2
    have g0 := (hcy _ _ s1).trans q10
    have g1 := (hcy _ _ s1).trans q11
    have n1 : ¬ p = w.heap.size + 1 := by omega
    have n2 : ¬ w.heap.size + 1 = p := by omega
    exact bodyPost_ret (v := rv (u1, u2)) (by simp [results, Try.results45, go_sem, g0, g1, n1, n2]) rfl ⟨by rw [← HE.out]; rfl, (by with_reducible repeat (first | exact Ext.refl _ | assumption | apply Ext.drewN | apply Ext.drew | apply Ext.alloc | (refine Ext.setCell ?_ (by simp <;> omega) _) | (refine Ext.trans ?_ (by assumption))))⟩
  · go_wp2
    exact ⟨rfl, by rw [← HE.out, appE, if_neg hrf]; rfl, (by with_reducible repeat (first | exact Ext.refl _ | assumption | apply Ext.drewN | apply Ext.drew | apply Ext.alloc | (refine Ext.setCell ?_ (by simp <;> omega) _) | (refine Ext.trans ?_ (by assumption))))⟩
end Go.Proofs.Ytgkdeknfmmgbdaa

namespace Go.Proofs.Ytgkdeknfmmgbdaa
set_option linter.unusedVariables false
set_option linter.unusedSimpArgs false
namespace Dv

/-- The quotient's digit. -/
def Q (a b u l : Int) : Int := (u * 4294967296 + l) / (a * 4294967296 + b)

structure Hyp (a b u l : Int) : Prop where
  a1 : 2147483648 ≤ a
  a2 : a < 4294967296
  b1 : 0 ≤ b
  b2 : b < 4294967296
  u1 : 0 ≤ u
  u2 : u < a * 4294967296 + b
  l1 : 0 ≤ l
  l2 : l < 4294967296

structure Inv (a b u l q r : Int) : Prop where
  eq : q * a + r = u
  r0 : 0 ≤ r
  ge : Q a b u l ≤ q
  le : q ≤ 4294967297

section
variable {a b u l q r : Int}
theorem Hyp.pos (h : Hyp a b u l) : 0 < a * 4294967296 + b := by have := h.a1; have := h.b1; omega
theorem Hyp.nn (h : Hyp a b u l) : 0 ≤ Q a b u l := Int.ediv_nonneg (by have := h.u1; have := h.l1; omega) (by have := h.pos; omega)
theorem Hyp.mul_le (h : Hyp a b u l) : Q a b u l * (a * 4294967296 + b) ≤ u * 4294967296 + l := Int.ediv_mul_le _ (by have := h.pos; omega)
theorem Hyp.lt (h : Hyp a b u l) : Q a b u l < 4294967296 := by
  refine (Int.ediv_lt_iff_lt_mul h.pos).2 ?_
  have := h.u2; have := h.l2
  omega
theorem dist (q a b : Int) : q * (a * 4294967296 + b) = q * a * 4294967296 + q * b := by
  rw [Int.mul_add, Int.mul_assoc]
theorem Inv.start (h : Hyp a b u l) : Inv a b u l (u / a) (u - u / a * a) := by
  have ha : 0 < a := by have := h.a1; omega
  refine ⟨by omega, ?_, ?_, ?_⟩
  · have := Int.ediv_mul_le u (b := a) (by omega)
    omega
  · refine (Int.le_ediv_iff_mul_le ha).2 ?_
    have h1 := h.mul_le
    have h2 := Int.mul_nonneg h.nn h.b1
    have h3 := h.l2
    rw [dist] at h1
    generalize Q a b u l * a = P at *
    generalize Q a b u l * b = M at *
    omega
  · have h1 : u / a < 4294967298 := by
      refine (Int.ediv_lt_iff_lt_mul ha).2 ?_
      have := h.u2; have := h.b2; have := h.a1
      omega
    omega
theorem start_lt (h : Hyp a b u l) : u - u / a * a < 4294967296 := by
  have ha : 0 < a := by have := h.a1; omega
  have := Int.lt_ediv_add_one_mul_self u ha
  rw [Int.add_mul] at this
  have := h.a2
  omega
theorem Inv.down (h : Hyp a b u l) (i : Inv a b u l q r) (hc : 4294967296 ≤ q ∨ 4294967296 * r + l < q * b) : Inv a b u l (q - 1) (r + a) := by
  have e : (q - 1) * a = q * a - a := by rw [Int.sub_mul, Int.one_mul]
  have i1 := i.eq
  refine ⟨by rw [e]; omega, by have := i.r0; have := h.a1; omega, ?_, by have := i.le; omega⟩
  have : Q a b u l < q := by
    rcases hc with hc | hc
    · have := h.lt
      omega
    · refine (Int.ediv_lt_iff_lt_mul h.pos).2 ?_
      rw [dist]
      generalize q * a = P at *
      generalize q * b = M at *
      omega
  omega
theorem Inv.stop (h : Hyp a b u l) (i : Inv a b u l q r) (hc : q * b ≤ 4294967296 * r + l) : q = Q a b u l := by
  have i1 := i.eq
  have i2 := i.ge
  have : q ≤ Q a b u l := by
    refine (Int.le_ediv_iff_mul_le h.pos).2 ?_
    rw [dist]
    generalize q * a = P at *
    generalize q * b = M at *
    omega
  omega
theorem mul_bd (h : Hyp a b u l) (h0 : 0 ≤ q) (hq : q ≤ 4294967296) : 0 ≤ q * b ∧ q * b ≤ 18446744069414584320 := by
  refine ⟨Int.mul_nonneg h0 h.b1, ?_⟩
  have h1 := Int.mul_le_mul_of_nonneg_right hq h.b1
  have := h.b2
  omega
theorem Inv.leave (h : Hyp a b u l) (i : Inv a b u l q r) (hq : q ≤ 4294967296) (hr : 4294967296 ≤ r) : q = Q a b u l := by
  have h0 : 0 ≤ q := by have := i.ge; have := h.nn; omega
  have := mul_bd h h0 hq
  have := h.l1
  exact i.stop h (by omega)
theorem rest (h : Hyp a b u l) : u * 4294967296 + l - Q a b u l * (a * 4294967296 + b) = (u * 4294967296 + l) % (a * 4294967296 + b) := by
  have := Int.emod_add_mul_ediv (u * 4294967296 + l) (a * 4294967296 + b)
  rw [Int.mul_comm (a * 4294967296 + b)] at this
  show _ - (u * 4294967296 + l) / (a * 4294967296 + b) * (a * 4294967296 + b) = _
  omega
theorem rest_bd (h : Hyp a b u l) : 0 ≤ u * 4294967296 + l - Q a b u l * (a * 4294967296 + b) ∧ u * 4294967296 + l - Q a b u l * (a * 4294967296 + b) < a * 4294967296 + b := by
  rw [rest h]
  exact ⟨Int.emod_nonneg _ (by have := h.pos; omega), Int.emod_lt_of_pos _ h.pos⟩
end

/-- Two digits. -/
theorem two {a b u l1 l0 : Int} (h : Hyp a b u l1) (k : Hyp a b (u * 4294967296 + l1 - Q a b u l1 * (a * 4294967296 + b)) l0) :
    Q a b u l1 * 4294967296 + Q a b (u * 4294967296 + l1 - Q a b u l1 * (a * 4294967296 + b)) l0 = (u * 18446744073709551616 + (l1 * 4294967296 + l0)) / (a * 4294967296 + b) ∧
    (u * 4294967296 + l1 - Q a b u l1 * (a * 4294967296 + b)) * 4294967296 + l0 - Q a b (u * 4294967296 + l1 - Q a b u l1 * (a * 4294967296 + b)) l0 * (a * 4294967296 + b) = (u * 18446744073709551616 + (l1 * 4294967296 + l0)) % (a * 4294967296 + b) := by
  have hp := h.pos
  have kb := rest_bd k
  generalize hR : u * 4294967296 + l1 - Q a b u l1 * (a * 4294967296 + b) = R at *
  generalize hq1 : Q a b u l1 = q1 at *
  generalize hq0 : Q a b R l0 = q0 at *
  generalize a * 4294967296 + b = y at *
  have e1 : (q1 * 4294967296 + q0) * y = q1 * y * 4294967296 + q0 * y := by
    rw [Int.add_mul, Int.mul_right_comm]
  have e2 : u * 18446744073709551616 + (l1 * 4294967296 + l0) = (R * 4294967296 + l0 - q0 * y) + y * (q1 * 4294967296 + q0) := by
    rw [Int.mul_comm y, e1]
    generalize q1 * y = A at *
    generalize q0 * y = B at *
    omega
  rw [e2]
  exact ⟨by rw [Int.add_mul_ediv_left _ _ (by omega), Int.ediv_eq_zero_of_lt kb.1 kb.2]; omega, by rw [Int.add_mul_emod_self_left, Int.emod_eq_of_lt kb.1 kb.2]⟩

/-- The whole: numbers shifted so that the divisor's first bit is set. -/
theorem whole {hi lo y c d : Int} (hc : 0 < c) (hd : c * d = 18446744073709551616) (hd0 : 0 < d) (h0 : 0 < y) :
    ((hi * c + lo / d) * 18446744073709551616 + lo * c % 18446744073709551616) / (y * c) = (hi * 18446744073709551616 + lo) / y ∧
    ((hi * c + lo / d) * 18446744073709551616 + lo * c % 18446744073709551616) % (y * c) / c = (hi * 18446744073709551616 + lo) % y := by
  have e1 : lo * c / 18446744073709551616 = lo / d := by
    rw [← hd, Int.mul_comm lo c]
    exact Int.mul_ediv_mul_of_pos _ _ hc
  have e2 : (hi * c + lo / d) * 18446744073709551616 + lo * c % 18446744073709551616 = c * (hi * 18446744073709551616 + lo) := by
    rw [← e1, Int.mul_add, Int.add_mul]
    have := Int.emod_add_mul_ediv (lo * c) 18446744073709551616
    rw [Int.mul_comm c lo, ← Int.mul_assoc, Int.mul_comm c hi]
    omega
  rw [e2, Int.mul_comm y c]
  exact ⟨Int.mul_ediv_mul_of_pos _ _ hc, by rw [Int.mul_emod_mul_of_pos _ _ hc, Int.mul_ediv_cancel_left _ (by omega)]⟩
end Dv
end Go.Proofs.Ytgkdeknfmmgbdaa

namespace Go.Proofs.Ytgkdeknfmmgbdaa
set_option linter.unusedVariables false
set_option linter.unusedSimpArgs false
open Go.RowKit

theorem len8_get (i : Int) (h0 : 0 ≤ i) (h1 : i ≤ 255) (h : i.toNat < Lib.len8tab.size) : ((Lib.len8tab[i.toNat]'h).toNat : Int) = (Lib.bitLen i.toNat : Int) := by
  rw [← Lib.len8_of i h0 h1]
  simp only [Lib.len8, ByteArray.getElem?_lt' _ _ h, Option.getD_some]
theorem fin_sum {A B k : Nat} (s : A = k + B) (l : B ≤ 8) (hk : k ≤ 56) : wrap64 ((k : Int) + wrap64 (B : Int)) = (A : Int) := by
  simp only [wrap64]
  omega
theorem fin_z {A : Nat} (l : A ≤ 8) : wrap64 (wrap64 (A : Int)) = (A : Int) := by
  simp only [wrap64]
  omega
theorem fin_56 (x : Int) (h0 : 0 ≤ x) (h1 : x ≤ 18446744073709551615) (h2 : 72057594037927936 ≤ x) (h3 : x / 4294967296 / 65536 / 256 ≤ 255) (h : (x / 4294967296 / 65536 / 256).toNat < Lib.len8tab.size) : wrap64 (56 + wrap64 (Lib.len8tab[(x / 4294967296 / 65536 / 256).toNat]'h).toNat) = (Lib.bitLen x.toNat : Int) := by
  have l := Lib.bitLen_le8' (x / 4294967296 / 65536 / 256) (by omega) (by omega)
  have hg := len8_get (x / 4294967296 / 65536 / 256) (by omega) (by omega) h
  have e : (x / 4294967296 / 65536 / 256).toNat = x.toNat / 72057594037927936 := by omega
  have s := Lib.bitLen_shift56 x.toNat (by omega) (by omega)
  rw [hg, e]
  rw [e] at l
  exact fin_sum s l (by decide)
theorem fin_48 (x : Int) (h0 : 0 ≤ x) (h1 : x ≤ 18446744073709551615) (h2 : 281474976710656 ≤ x) (h3 : x / 4294967296 / 65536 ≤ 255) (h : (x / 4294967296 / 65536).toNat < Lib.len8tab.size) : wrap64 (48 + wrap64 (Lib.len8tab[(x / 4294967296 / 65536).toNat]'h).toNat) = (Lib.bitLen x.toNat : Int) := by
  have l := Lib.bitLen_le8' (x / 4294967296 / 65536) (by omega) (by omega)
  have hg := len8_get (x / 4294967296 / 65536) (by omega) (by omega) h
  have e : (x / 4294967296 / 65536).toNat = x.toNat / 281474976710656 := by omega
  have s := Lib.bitLen_shift48 x.toNat (by omega) (by omega)
  rw [hg, e]
  rw [e] at l
  exact fin_sum s l (by decide)
theorem fin_40 (x : Int) (h0 : 0 ≤ x) (h1 : x ≤ 18446744073709551615) (h2 : 1099511627776 ≤ x) (h3 : x / 4294967296 / 256 ≤ 255) (h : (x / 4294967296 / 256).toNat < Lib.len8tab.size) : wrap64 (40 + wrap64 (Lib.len8tab[(x / 4294967296 / 256).toNat]'h).toNat) = (Lib.bitLen x.toNat : Int) := by
  have l := Lib.bitLen_le8' (x / 4294967296 / 256) (by omega) (by omega)
  have hg := len8_get (x / 4294967296 / 256) (by omega) (by omega) h
  have e : (x / 4294967296 / 256).toNat = x.toNat / 1099511627776 := by omega
  have s := Lib.bitLen_shift40 x.toNat (by omega) (by omega)
  rw [hg, e]
  rw [e] at l
  exact fin_sum s l (by decide)
theorem fin_32 (x : Int) (h0 : 0 ≤ x) (h1 : x ≤ 18446744073709551615) (h2 : 4294967296 ≤ x) (h3 : x / 4294967296 ≤ 255) (h : (x / 4294967296).toNat < Lib.len8tab.size) : wrap64 (32 + wrap64 (Lib.len8tab[(x / 4294967296).toNat]'h).toNat) = (Lib.bitLen x.toNat : Int) := by
  have l := Lib.bitLen_le8' (x / 4294967296) (by omega) (by omega)
  have hg := len8_get (x / 4294967296) (by omega) (by omega) h
  have e : (x / 4294967296).toNat = x.toNat / 4294967296 := by omega
  have s := Lib.bitLen_shift32 x.toNat (by omega) (by omega)
  rw [hg, e]
  rw [e] at l
  exact fin_sum s l (by decide)
theorem fin_24 (x : Int) (h0 : 0 ≤ x) (h1 : x ≤ 18446744073709551615) (h2 : 16777216 ≤ x) (h3 : x / 65536 / 256 ≤ 255) (h : (x / 65536 / 256).toNat < Lib.len8tab.size) : wrap64 (24 + wrap64 (Lib.len8tab[(x / 65536 / 256).toNat]'h).toNat) = (Lib.bitLen x.toNat : Int) := by
  have l := Lib.bitLen_le8' (x / 65536 / 256) (by omega) (by omega)
  have hg := len8_get (x / 65536 / 256) (by omega) (by omega) h
  have e : (x / 65536 / 256).toNat = x.toNat / 16777216 := by omega
  have s := Lib.bitLen_shift24 x.toNat (by omega) (by omega)
  rw [hg, e]
  rw [e] at l
  exact fin_sum s l (by decide)
theorem fin_16 (x : Int) (h0 : 0 ≤ x) (h1 : x ≤ 18446744073709551615) (h2 : 65536 ≤ x) (h3 : x / 65536 ≤ 255) (h : (x / 65536).toNat < Lib.len8tab.size) : wrap64 (16 + wrap64 (Lib.len8tab[(x / 65536).toNat]'h).toNat) = (Lib.bitLen x.toNat : Int) := by
  have l := Lib.bitLen_le8' (x / 65536) (by omega) (by omega)
  have hg := len8_get (x / 65536) (by omega) (by omega) h
  have e : (x / 65536).toNat = x.toNat / 65536 := by omega
  have s := Lib.bitLen_shift16 x.toNat (by omega) (by omega)
  rw [hg, e]
  rw [e] at l
  exact fin_sum s l (by decide)
theorem fin_8 (x : Int) (h0 : 0 ≤ x) (h1 : x ≤ 18446744073709551615) (h2 : 256 ≤ x) (h3 : x / 256 ≤ 255) (h : (x / 256).toNat < Lib.len8tab.size) : wrap64 (8 + wrap64 (Lib.len8tab[(x / 256).toNat]'h).toNat) = (Lib.bitLen x.toNat : Int) := by
  have l := Lib.bitLen_le8' (x / 256) (by omega) (by omega)
  have hg := len8_get (x / 256) (by omega) (by omega) h
  have e : (x / 256).toNat = x.toNat / 256 := by omega
  have s := Lib.bitLen_shift8 x.toNat (by omega) (by omega)
  rw [hg, e]
  rw [e] at l
  exact fin_sum s l (by decide)
theorem fin_0 (x : Int) (h0 : 0 ≤ x) (h3 : x ≤ 255) (h : x.toNat < Lib.len8tab.size) : wrap64 (wrap64 (Lib.len8tab[x.toNat]'h).toNat) = (Lib.bitLen x.toNat : Int) := by
  have l := Lib.bitLen_le8' x (by omega) (by omega)
  have hg := len8_get x (by omega) (by omega) h
  rw [hg]
  exact fin_z l
set_option maxHeartbeats 1000000 in
set_option maxRecDepth 100000 in
theorem Len64_any (x : Int) (w : World) (h0 : 0 ≤ x) (h1 : x ≤ 18446744073709551615) :
    Calls Try.prog 126 #[.int .u64 x] w fun e w' => e = .returned (.int .i64 (Lib.bitLen x.toNat)) ∧ w' = w := by
  go_enter Try.func126, Try.ntmps126
  go_wp2
  all_goals first
    | (go_ret; refine ⟨congrArg Ending.returned (congrArg (Value.int IntKind.i64) ?_), rfl⟩)
    | (exfalso; have hs := Lib.len8tab_size; omega)
  all_goals first
    | (with_reducible refine fin_56 x ?_ ?_ ?_ ?_ _; all_goals omega)
    | (with_reducible refine fin_48 x ?_ ?_ ?_ ?_ _; all_goals omega)
    | (with_reducible refine fin_40 x ?_ ?_ ?_ ?_ _; all_goals omega)
    | (with_reducible refine fin_32 x ?_ ?_ ?_ ?_ _; all_goals omega)
    | (with_reducible refine fin_24 x ?_ ?_ ?_ ?_ _; all_goals omega)
    | (with_reducible refine fin_16 x ?_ ?_ ?_ ?_ _; all_goals omega)
    | (with_reducible refine fin_8 x ?_ ?_ ?_ ?_ _; all_goals omega)
    | (with_reducible refine fin_0 x ?_ ?_ _; all_goals omega)

/-- The highest bit. -/
theorem bitLen_between : ∀ (k x : Nat), x < 2 ^ k → k ≤ 64 → x ≠ 0 → ∃ n, Lib.bitLen x = n + 1 ∧ 2 ^ n ≤ x ∧ x < 2 ^ (n + 1)
  | 0, x, h, _, h0 => by omega
  | k + 1, x, h, hk, h0 => by
    have hx : x < 2 ^ 64 := Nat.lt_of_lt_of_le h (Nat.pow_le_pow_right (by decide) hk)
    have e := Lib.bitLen_half x h0 hx
    by_cases h1 : x / 2 = 0
    · have hx1 : x = 1 := by omega
      subst hx1
      exact ⟨0, by decide, by decide, by decide⟩
    · obtain ⟨n, hn, h2, h3⟩ := bitLen_between k (x / 2) (by rw [Nat.pow_succ] at h; omega) (by omega) h1
      refine ⟨n + 1, by omega, ?_, ?_⟩
      · rw [Nat.pow_succ]; omega
      · rw [Nat.pow_succ]; omega

theorem lead_any (x : Int) (w : World) (h0 : 0 < x) (h1 : x ≤ 18446744073709551615) :
    ∃ s : Nat, s ≤ 63 ∧ 9223372036854775808 ≤ x * 2 ^ s ∧ x * 2 ^ s < 18446744073709551616 ∧ Calls Try.prog 125 #[.int .u64 x] w fun e w' => e = .returned (.int .i64 (s : Int)) ∧ w' = w := by
  obtain ⟨y, rfl⟩ := Int.eq_ofNat_of_zero_le (show 0 ≤ x by omega)
  obtain ⟨n, hn, h2, h3⟩ := bitLen_between 64 y (by omega) (Nat.le_refl _) (by omega)
  have hn63 : n ≤ 63 := by
    rcases Nat.lt_or_ge 63 n with h | h
    · have : 2 ^ 64 ≤ 2 ^ n := Nat.pow_le_pow_right (by decide) h
      omega
    · exact h
  have e1 : 2 ^ n * 2 ^ (63 - n) = 9223372036854775808 := by
    rw [← Nat.pow_add, show n + (63 - n) = 63 by omega]
  have e2 : 2 ^ (n + 1) * 2 ^ (63 - n) = 18446744073709551616 := by
    rw [← Nat.pow_add, show n + 1 + (63 - n) = 64 by omega]
  have k1 : 2 ^ n * 2 ^ (63 - n) ≤ y * 2 ^ (63 - n) := Nat.mul_le_mul_right _ h2
  have k2 : y * 2 ^ (63 - n) < 2 ^ (n + 1) * 2 ^ (63 - n) := Nat.mul_lt_mul_of_pos_right h3 (Nat.pow_pos (by decide))
  rw [e1] at k1
  rw [e2] at k2
  have ec : ((y : Int) * 2 ^ (63 - n)) = ((y * 2 ^ (63 - n) : Nat) : Int) := by rw [Int.natCast_mul, Int.natCast_pow]; rfl
  refine ⟨63 - n, by omega, by rw [ec]; omega, by rw [ec]; omega, ?_⟩
  have HL := Lib.hid (fun w => Len64_any (y : Int) w (by omega) h1)
  rw [Int.toNat_natCast, hn] at HL
  have hnn : n + 1 ≤ 64 := by omega
  clear k1 k2 e1 e2 h2 h3 ec hn
  go_enter Try.func125, Try.ntmps125
  go_wp2_with (go_at_call 126; refine (HL.out _).mono ?_; rintro e w' ⟨rfl, rfl⟩)
  go_ret
  exact ⟨congrArg Ending.returned (congrArg (Value.int IntKind.i64) (by omega)), rfl⟩

end Go.Proofs.Ytgkdeknfmmgbdaa

namespace Go.Proofs.Ytgkdeknfmmgbdaa
set_option linter.unusedVariables false
set_option linter.unusedSimpArgs false
open Go.RowKit

namespace Dv
theorem maskZ (x : Int) (h0 : 0 ≤ x) (h1 : x < 18446744073709551616) : bits .and .u64 x 4294967295 = x % 4294967296 := by
  obtain ⟨n, rfl⟩ := Int.eq_ofNat_of_zero_le h0
  rw [M64.maskN n (by omega)]
  omega
theorem orZ (x z : Int) (s : Nat) (h0 : 0 ≤ x) (hz : 0 ≤ z) (h1 : x * 2 ^ s < 18446744073709551616) (h2 : z < 2 ^ s) (h3 : z < 18446744073709551616) : bits .or .u64 (x * 2 ^ s) z = x * 2 ^ s + z := by
  obtain ⟨n, rfl⟩ := Int.eq_ofNat_of_zero_le h0
  obtain ⟨m, rfl⟩ := Int.eq_ofNat_of_zero_le hz
  have e : (n : Int) * 2 ^ s = ((n * 2 ^ s : Nat) : Int) := by rw [Int.natCast_mul, Int.natCast_pow]; rfl
  have e2 : ((2 : Int) ^ s) = ((2 ^ s : Nat) : Int) := by rw [Int.natCast_pow]; rfl
  rw [e2] at h2
  rw [e] at h1 ⊢
  rw [bits_or_u64_nat _ _ (by omega) (by omega), ← Nat.shiftLeft_eq, ← Nat.shiftLeft_add_eq_or_of_lt (by omega), Int.natCast_add]
theorem pow_ab {s : Nat} (hs : s ≤ 63) : ((2 : Int) ^ s) * 2 ^ (64 - s) = 18446744073709551616 := by
  rw [← Int.pow_add, show s + (64 - s) = 64 by omega]; rfl
theorem pow_pos (s : Nat) : (0 : Int) < 2 ^ s := Int.pow_pos (by decide)
theorem quoZ (x z : Int) (h0 : 0 ≤ x) (h1 : x < 18446744073709551616) (hz : 1 ≤ z) : IntKind.u64.wrap (x.tdiv z) = x / z := by
  have h2 := Int.ediv_le_self z h0
  have h3 := Int.ediv_nonneg h0 (show 0 ≤ z by omega)
  rw [Int.tdiv_eq_ediv_of_nonneg h0, IntKind.wrap_u64]
  omega
theorem subZ {b l : Int} (U a : Int) (h : Hyp a b U l) : IntKind.u64.wrap (U - IntKind.u64.wrap (U / a * a)) = U - U / a * a := by
  have i := Inv.start h
  have h1 := start_lt h
  have h2 := i.r0
  simp only [IntKind.wrap_u64]
  omega
theorem restZ (U l M : Int) (h0 : 0 ≤ U * 4294967296 + l - M) (h1 : U * 4294967296 + l - M < 18446744073709551616) :
    IntKind.u64.wrap (IntKind.u64.wrap (IntKind.u64.wrap (U * 4294967296) + l) - IntKind.u64.wrap M) = U * 4294967296 + l - M := by
  simp only [IntKind.wrap_u64]
  omega
end Dv

set_option maxHeartbeats 2000000 in
theorem div_pos (hi lo y : Int) (w : World) (h1 : 0 < hi) (h2 : hi < y) (h3 : 0 ≤ lo) (h4 : lo < 18446744073709551616) (h5 : y < 18446744073709551616) : 
  Calls Try.prog 123 #[.int .u64 hi, .int .u64 lo, .int .u64 y] w fun e w' => e = .returned (.tuple #[.int .u64 ((hi * 18446744073709551616 + lo) / y), .int .u64 ((hi * 18446744073709551616 + lo) % y)]) ∧ ∃ n, w' = w.drewN n := by
  have hy : ¬ y = 0 := by omega
  have hh : ¬ hi = 0 := by omega
  obtain ⟨s, hs, k1, k2, HL⟩ := lead_any y w (by omega) (by omega)
  have hsI : (s : Int) ≤ 63 := by omega
  have HL := Lib.hid HL
  have cpos := Dv.pow_pos s
  have dpos := Dv.pow_pos (64 - s)
  have cd := Dv.pow_ab hs
  have hic : 0 ≤ hi * 2 ^ s := Int.mul_nonneg (by omega) (by omega)
  have hiy : hi * 2 ^ s ≤ (y - 1) * 2 ^ s := Int.mul_le_mul_of_nonneg_right (by omega) (by omega)
  rw [Int.sub_mul, Int.one_mul] at hiy
  have lod0 : 0 ≤ lo / 2 ^ (64 - s) := Int.ediv_nonneg h3 (by omega)
  have lod1 : lo / 2 ^ (64 - s) < 2 ^ s := (Int.ediv_lt_iff_lt_mul dpos).2 (by rw [cd]; omega)
  have lod2 : lo / 2 ^ (64 - s) ≤ lo := Int.ediv_le_self _ h3
  obtain ⟨W1, W2⟩ := Dv.whole (hi := hi) (lo := lo) (y := y) cpos cd dpos (by omega)
  have eY := Dv.maskZ (y * 2 ^ s) (by omega) k2
  have eH : IntKind.u64.wrap (hi * 2 ^ s) = hi * 2 ^ s := by rw [IntKind.wrap_u64]; omega
  have eU := Dv.orZ hi (lo / 2 ^ (64 - s)) s (by omega) lod0 (by omega) lod1 (by omega)
  have eL : IntKind.u64.wrap (lo * 2 ^ s) = lo * 2 ^ s % 18446744073709551616 := by rw [IntKind.wrap_u64]
  have eM := Dv.maskZ (lo * 2 ^ s % 18446744073709551616) (Int.emod_nonneg _ (by decide)) (Int.emod_lt_of_pos _ (by decide))
  have yq : ∃ Y, Y = y * 2 ^ s := ⟨_, rfl⟩
  obtain ⟨Y, hY⟩ := yq
  have uq : ∃ U, U = hi * 2 ^ s + lo / 2 ^ (64 - s) := ⟨_, rfl⟩
  obtain ⟨U, hU⟩ := uq
  have lq : ∃ L, L = lo * 2 ^ s % 18446744073709551616 := ⟨_, rfl⟩
  obtain ⟨L, hL⟩ := lq
  have hL0 : 0 ≤ L := by rw [hL]; exact Int.emod_nonneg _ (by decide)
  have hL1 : L < 18446744073709551616 := by rw [hL]; exact Int.emod_lt_of_pos _ (by decide)
  have EY := Lib.hid eY; have EH := Lib.hid eH; have EU := Lib.hid eU; have EL := Lib.hid eL; have EM := Lib.hid eM
  have HY := Lib.hid hY; have HU := Lib.hid hU; have HL2 := Lib.hid hL
  have W1 := Lib.hid W1; have W2 := Lib.hid W2
  have y1 : 9223372036854775808 ≤ Y := by rw [hY]; exact k1
  have y2 : Y < 18446744073709551616 := by rw [hY]; exact k2
  have u1 : 0 ≤ U := by rw [hU]; omega
  have u2 : U < Y := by rw [hU, hY]; omega
  have hne : ¬ y * 2 ^ s / 4294967296 = 0 := by omega
  clear eY eH eU eL eM hY hU hL cpos dpos cd hic hiy lod0 lod1 lod2
  go_enter Try.func123, Try.ntmps123
  go_upto_block 0 with (go_at_call 125; refine (HL.out).mono ?_; rintro e w' ⟨rfl, rfl⟩)
  rw [EY.out, EH.out, EU.out, EL.out, EM.out, ← HY.out, ← HU.out, ← HL2.out]
  have b0 : 0 ≤ Y % 4294967296 := by omega
  have b1 : Y % 4294967296 < 4294967296 := by omega
  have a0 : 2147483648 ≤ Y / 4294967296 := by omega
  have a1 : Y / 4294967296 < 4294967296 := by omega
  have l0 : 0 ≤ L % 4294967296 := by omega
  have l1 : L % 4294967296 < 4294967296 := by omega
  have l2 : 0 ≤ L / 4294967296 := by omega
  have l3 : L / 4294967296 < 4294967296 := by omega
  have hYY : Y = Y / 4294967296 * 4294967296 + Y % 4294967296 := by omega
  have hLL : L = L / 4294967296 * 4294967296 + L % 4294967296 := by omega
  have HYY := Lib.hid hYY; have HLL := Lib.hid hLL; clear hYY hLL
  generalize Y / 4294967296 = a at *
  generalize Y % 4294967296 = b at *
  generalize L / 4294967296 = m at *
  generalize L % 4294967296 = n at *
  have HH : Dv.Hyp a b U m := ⟨a0, a1, b0, b1, u1, by have := HYY.out; omega, l2, l3⟩
  rw [Dv.quoZ U a u1 (by omega) (by omega), Dv.subZ U a HH]
  have I0 := Lib.hid (Dv.Inv.start HH)
  have s0 := I0.out.r0
  have s1 := Dv.start_lt HH
  have s2 : 0 ≤ U / a := Int.ediv_nonneg u1 (by omega)
  have s3 := I0.out.le
  generalize U / a = Q0 at *
  generalize U - Q0 * a = R0 at *
  have HQ := Lib.hid HH
  clear HH
  go_cut [15, 16] (fun q r wx => wx = w' ∧ q = .int .u64 (Dv.Q a b U m))
  case first =>
    go_wp2_with (fail)
    go_loop [15, 16] (fun q r => ∃ c d : Int, q = .int .u64 c ∧ r = .int .u64 d ∧ 0 ≤ c ∧ c ≤ 4294967297 ∧ 0 ≤ d ∧ d < 4294967296 ∧ Hid (Dv.Inv a b U m c d)) (fun q _ => (intOf q).toNat)
    case atStart => exact ⟨_, _, rfl, rfl, s2, s3, s0, s1, I0⟩
    case round =>
      obtain ⟨c, d, rfl, rfl, c0, c1, d0, d1, HI⟩ := hrel
      have HB : c < 4294967296 → 0 ≤ c * b ∧ c * b ≤ 18446744069414584320 := fun h => Dv.mul_bd HQ.out c0 (by omega)
      have HB := Lib.hid HB
      have exit2 : c - 1 ≤ 4294967296 := by omega
      by_cases hc1 : 4294967296 ≤ c
      · have hI := Dv.Inv.down HQ.out HI.out (.inl hc1)
        have hI2 := Lib.hid hI
        by_cases hd : 4294967296 ≤ d + a
        · have hE := Lib.hid (Dv.Inv.leave HQ.out hI exit2 hd)
          clear hI
          go_wp2
          go_meet
          case rel => exact ⟨rfl, by rw [hE.out]⟩
        · clear hI
          go_wp2
          go_round
          case rel => exact ⟨_, _, rfl, rfl, by omega, by omega, by omega, by omega, hI2⟩
          case measure => simp [intOf]; omega
      · obtain ⟨m0, m1⟩ := HB.out (by omega)
        by_cases hc2 : 4294967296 * d + m < c * b
        · have hI := Dv.Inv.down HQ.out HI.out (.inr hc2)
          have hI2 := Lib.hid hI
          have hcp : 0 < c := by
            rcases Int.lt_or_eq_of_le c0 with h | h
            · exact h
            · rw [← h] at hc2; simp at hc2; omega
          by_cases hd : 4294967296 ≤ d + a
          · have hE := Lib.hid (Dv.Inv.leave HQ.out hI exit2 hd)
            clear hI
            go_wp2
            go_meet
            case rel => exact ⟨rfl, by rw [hE.out]⟩
          · clear hI
            go_wp2
            go_round
            case rel => exact ⟨_, _, rfl, rfl, by omega, by omega, by omega, by omega, hI2⟩
            case measure => simp [intOf]; omega
        · have hE := Lib.hid (Dv.Inv.stop HQ.out HI.out (by omega))
          go_wp2
          go_meet
          case rel => exact ⟨rfl, by rw [hE.out]⟩
  case rest =>
    obtain ⟨wd, rfl⟩ : ∃ wd : World, wd = wc := ⟨_, rfl⟩
    obtain ⟨rfl, rfl⟩ := hcut
    have q0 := Dv.Hyp.nn HQ.out
    have q1 := Dv.Hyp.lt HQ.out
    obtain ⟨rb0, rb1⟩ := Dv.rest_bd HQ.out
    rw [← HYY.out] at rb0 rb1
    have eR := Dv.restZ U m (Dv.Q a b U m * Y) rb0 (by omega)
    have ER := Lib.hid eR
    clear eR
    go_upto_block 2 with (fail)
    rw [ER.out]
    have HK : Dv.Hyp a b (U * 4294967296 + m - Dv.Q a b U m * Y) n := ⟨a0, a1, b0, b1, rb0, by have := HYY.out; omega, l0, l1⟩
    obtain ⟨T1, T2⟩ := Dv.two HQ.out (by rw [← HYY.out]; exact HK)
    rw [← HYY.out] at T1 T2
    have T1 := Lib.hid T1; have T2 := Lib.hid T2
    have hR : ∃ R, R = U * 4294967296 + m - Dv.Q a b U m * Y := ⟨_, rfl⟩
    obtain ⟨R, hR⟩ := hR
    rw [← hR] at HK rb0 rb1 ⊢
    have HR := Lib.hid hR
    clear hR
    rw [Dv.quoZ R a rb0 (by omega) (by omega), Dv.subZ R a HK]
    have J0 := Lib.hid (Dv.Inv.start HK)
    have t0 := J0.out.r0
    have t1 := Dv.start_lt HK
    have t2 : 0 ≤ R / a := Int.ediv_nonneg rb0 (by omega)
    have t3 := J0.out.le
    generalize R / a = Q1 at *
    generalize R - Q1 * a = R1 at *
    have HK := Lib.hid HK
    go_cut [16, 18] (fun r q wx => wx = wd ∧ q = .int .u64 (Dv.Q a b R n))
    case first =>
      go_wp2_with (fail)
      go_loop [16, 18] (fun r q => ∃ c d : Int, q = .int .u64 c ∧ r = .int .u64 d ∧ 0 ≤ c ∧ c ≤ 4294967297 ∧ 0 ≤ d ∧ d < 4294967296 ∧ Hid (Dv.Inv a b R n c d)) (fun _ q => (intOf q).toNat)
      case atStart => exact ⟨_, _, rfl, rfl, t2, t3, t0, t1, J0⟩
      case round =>
        obtain ⟨c, d, rfl, rfl, c0, c1, d0, d1, HI⟩ := hrel
        have HB : c < 4294967296 → 0 ≤ c * b ∧ c * b ≤ 18446744069414584320 := fun h => Dv.mul_bd HK.out c0 (by omega)
        have HB := Lib.hid HB
        have exit2 : c - 1 ≤ 4294967296 := by omega
        by_cases hc1 : 4294967296 ≤ c
        · have hI := Dv.Inv.down HK.out HI.out (.inl hc1)
          have hI2 := Lib.hid hI
          by_cases hd : 4294967296 ≤ d + a
          · have hE := Lib.hid (Dv.Inv.leave HK.out hI exit2 hd)
            clear hI
            go_wp2
            go_meet
            case rel => exact ⟨rfl, by rw [hE.out]⟩
          · clear hI
            go_wp2
            go_round
            case rel => exact ⟨_, _, rfl, rfl, by omega, by omega, by omega, by omega, hI2⟩
            case measure => simp [intOf]; omega
        · obtain ⟨m0, m1⟩ := HB.out (by omega)
          by_cases hc2 : 4294967296 * d + n < c * b
          · have hI := Dv.Inv.down HK.out HI.out (.inr hc2)
            have hI2 := Lib.hid hI
            have hcp : 0 < c := by
              rcases Int.lt_or_eq_of_le c0 with h | h
              · exact h
              · rw [← h] at hc2; simp at hc2; omega
            by_cases hd : 4294967296 ≤ d + a
            · have hE := Lib.hid (Dv.Inv.leave HK.out hI exit2 hd)
              clear hI
              go_wp2
              go_meet
              case rel => exact ⟨rfl, by rw [hE.out]⟩
            · clear hI
              go_wp2
              go_round
              case rel => exact ⟨_, _, rfl, rfl, by omega, by omega, by omega, by omega, hI2⟩
              case measure => simp [intOf]; omega
          · have hE := Lib.hid (Dv.Inv.stop HK.out HI.out (by omega))
            go_wp2
            go_meet
            case rel => exact ⟨rfl, by rw [hE.out]⟩
    case rest =>
      obtain ⟨we, rfl⟩ : ∃ we : World, we = wc := ⟨_, rfl⟩
      obtain ⟨rfl, rfl⟩ := hcut
      have p0 := Dv.Hyp.nn HK.out
      have p1 := Dv.Hyp.lt HK.out
      obtain ⟨rc0, rc1⟩ := Dv.rest_bd HK.out
      rw [← HYY.out] at rc0 rc1
      have e1 : Dv.Q a b U m * 4294967296 + Dv.Q a b R n = (hi * 18446744073709551616 + lo) / y := by
        rw [HR.out, T1.out, ← HLL.out, HL2.out, HY.out, HU.out]
        exact W1.out
      have e2 : IntKind.u64.wrap (IntKind.u64.wrap (IntKind.u64.wrap (R * 4294967296) + n) - IntKind.u64.wrap (Dv.Q a b R n * Y)) / 2 ^ s = (hi * 18446744073709551616 + lo) % y := by
        rw [Dv.restZ R n _ rc0 (by omega), HR.out, T2.out, ← HLL.out, HL2.out, HY.out, HU.out]
        exact W2.out
      have E1 := Lib.hid e1; have E2 := Lib.hid e2; clear e1 e2
      go_wp2
      go_ret2
      exact ⟨by rw [E1.out, E2.out]; rfl, 0, rfl⟩

set_option maxHeartbeats 1000000 in
theorem div_zero (lo y : Int) (w : World) (h2 : 0 < y) (h3 : 0 ≤ lo) (h4 : lo < 18446744073709551616) (h5 : y < 18446744073709551616) : 
    Calls Try.prog 123 #[.int .u64 0, .int .u64 lo, .int .u64 y] w fun e w' => e = .returned (.tuple #[.int .u64 (lo / y), .int .u64 (lo % y)]) ∧ ∃ n, w' = w.drewN n := by
  have hy : ¬ y = 0 := by omega
  go_enter Try.func123, Try.ntmps123
  go_wp2
  go_quiet (fail)
  go_wp2
  go_ret2
  exact ⟨rfl, _, rfl⟩

theorem div64_said : Div64Said := by
  intro hi lo y w h1 h2 h3 h4 h5
  rcases Int.lt_or_eq_of_le h1 with h | h
  · exact div_pos hi lo y w h h2 h3 h4 h5
  · subst h
    rw [Int.zero_mul, Int.zero_add]
    exact div_zero lo y w h2 h3 h4 h5
end Go.Proofs.Ytgkdeknfmmgbdaa

namespace Go.Proofs.Ytgkdeknfmmgbdaa
set_option linter.unusedVariables false
set_option linter.unusedSimpArgs false
open Go.RowKit

/-- All numbers of a tree lie in the range. -/
theorem valueE_I2 {S : Nat → Prop} {vs : Vals} (hvs : VR vs) : ∀ (d : Nat) (t : Ex) (_ : t.depth ≤ d) {w : World} {v : Value} (_ : Rd S w t v) {x : Int × Int}, valueE vs t = .ok x → I2 x
  | 0, .mk op n nm ts, hd, _, _, _, _, _ => by rw [Ex.depth] at hd; omega
  | d + 1, .mk op n nm ts, hd, w, v, hv, x, hx => by
    unfold Rd at hv
    obtain ⟨base, cap, hv, hn, -, hr⟩ := hv
    rw [valueE] at hx
    split at hx
    · injection hx with hx; rw [← hx]; exact hn
    · split at hx
      · cases hl : look vs nm with
        | none => rw [hl] at hx; cases hx
        | some k =>
          rw [hl] at hx
          injection hx with hx
          have := look_range hvs hl
          rw [← hx]
          exact ⟨this.1, this.2, by show (-9223372036854775808 : Int) ≤ 1; decide, by show (1 : Int) ≤ 9223372036854775807; decide⟩
      · match ts, hd, hr with
        | [], _, _ => simp [valueL] at hx
        | [_], _, _ => simp [valueL] at hx
        | _ :: _ :: _ :: _, _, _ => simp [valueL] at hx
        | [ta, tb], hd, hr =>
          rw [Ex.depth, Ex.depthL, Ex.depthL, Ex.depthL] at hd
          rcases hr with hr | ⟨b, -, -, hl⟩
          · cases hr
          obtain ⟨c, -, hra⟩ := hl.get 0 (by simp)
          obtain ⟨e, -, hrb⟩ := hl.get 1 (by simp)
          simp only [List.getElem_cons_zero, List.getElem_cons_succ] at hra hrb
          simp only [valueL] at hx
          cases ha : valueE vs ta with
          | error f => rw [ha] at hx; cases hx
          | ok y =>
            cases hb : valueE vs tb with
            | error f => rw [ha, hb] at hx; cases hx
            | ok z =>
              rw [ha, hb] at hx
              have ia := valueE_I2 hvs d ta (by omega) hra ha
              have ib := valueE_I2 hvs d tb (by omega) hrb hb
              have := applyI_I2 (opIx op).toNat y z ia ib
              simp only [appE] at hx
              split at hx
              · injection hx with hx; rw [← hx]; exact this
              · cases hx

theorem value_any (S : Nat → Prop) (vs : Vals) : ∀ (d : Nat) (t : Ex) (_ : t.depth ≤ d) (_ : formedB t = true) (w : World) (v sl : Value) (_ : Rd S w t v) (_ : VRd S w vs sl),
    Calls Try.prog 45 #[v, sl] w fun e w' => e = endE (valueE vs t) ∧ Ext w w'
  | 0, .mk op n nm ts, hd, _, _, _, _, _, _ => by rw [Ex.depth] at hd; omega
  | d + 1, .mk op n nm ts, hd, hf, w, v, sl, hv, hs => by
    rw [formedB] at hf
    rw [valueE]
    cases h0 : (op.toList == [110, 117, 109])
    · rw [h0] at hf
      cases h : (op.toList == [110, 97, 109, 101])
      · rw [h] at hf
        simp only [Bool.false_eq_true, if_false] at hf ⊢
        simp only [Bool.and_eq_true, Bool.not_eq_true', beq_eq_false_iff_ne, ne_eq, beq_iff_eq] at hf
        obtain ⟨hi, h2, -, -, hl⟩ := hf
        match ts, h2, hl, hd, hv with
        | [ta, tb], _, hl, hd, hv =>
          rw [Ex.depth, Ex.depthL, Ex.depthL, Ex.depthL] at hd
          simp only [formedL, Bool.and_eq_true, Bool.and_true] at hl
          have ia := fun w v sl hv hs => value_any S vs d ta (by omega) hl.1 w v sl hv hs
          have ib := fun w v sl hv hs => value_any S vs d tb (by omega) hl.2 w v sl hv hs
          simp only [valueL]
          cases ha : valueE vs ta with
          | error f => exact value_op1 S op n nm ta tb h0 h hi vs w v sl hv hs _ _ ia ib f ha
          | ok y =>
            cases hb : valueE vs tb with
            | error f => exact value_op2 S op n nm ta tb h0 h hi vs w v sl hv hs _ _ ia ib y f ha hb
            | ok z =>
              have hvs : VR vs := by obtain ⟨_, _, _, _, h, _⟩ := hs; exact h
              have hra : ∃ w v, Rd S w ta v := by
                unfold Rd at hv
                obtain ⟨base, cap, hv, hn, -, hr⟩ := hv
                rcases hr with hr | ⟨b, -, -, hl⟩
                · cases hr
                obtain ⟨c, -, hra⟩ := hl.get 0 (by simp)
                exact ⟨_, _, hra⟩
              have hrb : ∃ w v, Rd S w tb v := by
                unfold Rd at hv
                obtain ⟨base, cap, hv, hn, -, hr⟩ := hv
                rcases hr with hr | ⟨b, -, -, hl⟩
                · cases hr
                obtain ⟨c, -, hrb⟩ := hl.get 1 (by simp)
                exact ⟨_, _, hrb⟩
              obtain ⟨wa, va, hra⟩ := hra
              obtain ⟨wb, vb, hrb⟩ := hrb
              have hb6 := opIx_bd op
              exact value_op3 S op n nm ta tb h0 h hi vs w v sl hv hs _ _ ia ib y z ha hb (applyI (opIx op).toNat y z)
                (fun w => apply_any div64_said _ (by omega) y z (valueE_I2 hvs d ta (by omega) hra ha) (valueE_I2 hvs d tb (by omega) hrb hb) w) _ (Lib.hid rfl)
      · simp only [Bool.false_eq_true, if_false, if_true]
        exact value_name S op n nm ts h0 h vs w v sl hv hs
    · simp only [if_true]
      exact (value_num S op n nm ts h0 w v sl hv)

end Go.Proofs.Ytgkdeknfmmgbdaa

namespace Go.Proofs.Ytgkdeknfmmgbdaa
set_option linter.unusedVariables false
set_option linter.unusedSimpArgs false
open Go.RowKit

theorem catch_idle (p q : Nat) (w : World) :
    CallsD Try.prog 44 #[.pointer (some ⟨p, 0, none⟩), .pointer (some ⟨q, 0, none⟩)] .returning w fun e u' w' => e = .returned (.tuple #[]) ∧ u' = .returning ∧ w' = w := by
  refine callsD_of_wpS Try.func44 rfl fun c₀ cs hu => ?_
  apply wpS_seq
  apply wpS_region
  simp [wpOpsS, go_sem, recoverD, hu, Try.ntmps44, Exit.thenS]
  refine wpS_of_wp ?_
  go_wp2
  cases c₀
  simp_all [bodyPostS, results, Try.results44]

theorem frame14 (a b v : Value) : (#[a, b] ++ (Array.replicate 12 undef).setIfInBounds 3 v : Array Value) = #[a, b, undef, undef, undef, v, undef, undef, undef, undef, undef, undef, undef, undef] := rfl

theorem assert91 (f : Int) (w : World) : (Instr.typeAssert (.iface 91 (.agg #[.int .i64 f])) 20 91 true).run Try.prog w = .ok (.tuple #[.agg #[.int .i64 f], .bool true]) w := by kernel_rfl

set_option maxRecDepth 100000 in
theorem catch_panic (B p q : Nat) (f a b c : Int) (older : List PanicEntry) (w : World) (h0 : w.cell? ⟨p, 0, none⟩ = some (.int .i64 a)) (h1 : w.cell? ⟨p, 1, none⟩ = some (.int .i64 b)) (h2 : w.cell? ⟨q, 0, none⟩ = some (.int .i64 c))
   (f0 : w.frozen? ⟨p, 0, none⟩ = false) (f1 : w.frozen? ⟨p, 1, none⟩ = false) (f2 : w.frozen? ⟨q, 0, none⟩ = false) (hpq : ¬ p = q) (hp : B ≤ p) (hq : B ≤ q) (hB : B ≤ w.heap.size) :
    CallsD Try.prog 44 #[.pointer (some ⟨p, 0, none⟩), .pointer (some ⟨q, 0, none⟩)] (.panicking ({ v := .iface 91 (.agg #[.int .i64 f]), recovered := false } :: older)) w fun e u' w' => e = .returned (.tuple #[]) ∧ u' = .panicking ({ v := .iface 91 (.agg #[.int .i64 f]), recovered := true } :: older) ∧
      w'.cell? ⟨p, 0, none⟩ = some (.int .i64 0) ∧ w'.cell? ⟨p, 1, none⟩ = some (.int .i64 0) ∧ w'.cell? ⟨q, 0, none⟩ = some (.int .i64 f) ∧ Below B w w' := by
  refine callsD_of_wpS Try.func44 rfl fun c₀ cs hu => ?_
  apply wpS_seq
  apply wpS_region
  simp [wpOpsS, go_sem, recoverD, hu, Try.ntmps44, Exit.thenS]
  refine wpS_of_wp ?_
  rw [frame14]
  have hta := assert91 f
  have np : ¬ p = w.heap.size := by have := World.block_lt_of_cell? w _ h0; simp at this; omega
  have nq : ¬ q = w.heap.size := by have := World.block_lt_of_cell? w _ h2; simp at this; omega
  have np' : ¬ w.heap.size = p := by omega
  have nq' : ¬ w.heap.size = q := by omega
  go_wp2
  have e0 : Below B w (w.alloc (Obj.cells #[.int .i64 f] 91)) := (Below.refl _ _).alloc hB _
  have hc := (Ext.alloc (Ext.refl w) (Obj.cells #[.int .i64 f] 91)).cells
  have pl : p < w.heap.size := World.block_lt_of_cell? w _ h0
  have ql : q < w.heap.size := World.block_lt_of_cell? w _ h2
  have k0 := (hc.1 _ _ pl).trans h0
  have k1 := (hc.1 _ _ pl).trans h1
  have k2 := (hc.1 _ _ ql).trans h2
  have m0 := (hc.2 _ _ pl).trans f0
  have m1 := (hc.2 _ _ pl).trans f1
  have m2 := (hc.2 _ _ ql).trans f2
  have k3 : (w.alloc (Obj.cells #[.int .i64 f] 91)).cell? ⟨w.heap.size, 0, none⟩ = some (.int .i64 f) := by simp [go_sem]
  clear hc pl ql hB h0 h1 h2 f0 f1 f2
  generalize w.alloc (Obj.cells #[.int .i64 f] 91) = W at *
  generalize w.heap.size = r at *
  have qp : ¬ q = p := fun e => hpq e.symm
  go_region
  cases c₀
  simp only at hu
  subst hu
  refine ⟨rfl, _, rfl, _, results_none rfl _ _ _, rfl, rfl, ?_, ?_, ?_, (((e0.setCell (p := ⟨p, 0, none⟩) hp _).setCell (p := ⟨p, 1, none⟩) hp _).setCell (p := ⟨q, 0, none⟩) hq _).drew⟩
  · go_simp
  · go_simp
  · go_simp
end Go.Proofs.Ytgkdeknfmmgbdaa

namespace Go.Proofs.Ytgkdeknfmmgbdaa
set_option linter.unusedVariables false
set_option linter.unusedSimpArgs false
open Go.RowKit

def evalI (vs : Vals) (t : Ex) : (Int × Int) × Int :=
  if wrongI t = 0 then (match valueE vs t with | .ok x => (x, 0) | .error f => ((0, 0), f)) else ((0, 0), wrongI t)

set_option maxRecDepth 100000 in
set_option maxHeartbeats 1000000 in
theorem eval_wrong (S : Nat → Prop) (vs : Vals) (t : Ex) (h : ¬ wrongI t = 0) (w : World) (v sl : Value) (hv : Rd S w t v) :
    Calls Try.prog 17 #[v, sl] w fun e w' => e = .returned (rev ((0, 0), wrongI t)) ∧ Ext w w' := by
  have HW := Lib.hid (fun w' (hw : Ext w w') => wrong_any S t w' v (Rd.ext hw hv))
  have hsh : ∃ op n1 n2 nm base len cap, v = .agg #[.string op, .int .i64 n1, .int .i64 n2, .string nm, .slice base len cap] := by
    obtain ⟨op, n, nm, ts⟩ := t
    unfold Rd at hv
    obtain ⟨base, cap, hv, -⟩ := hv
    exact ⟨_, _, _, _, _, _, _, hv⟩
  obtain ⟨op, n1, n2, nm, base, len, cap, rfl⟩ := hsh
  clear hv
  generalize wrongI t = k at *
  go_enter_defers Try.func17, Try.ntmps17
  go_wp2_with (go_at_call 43; (with_reducible refine (HW.out _ (by with_reducible repeat (first | exact Ext.refl _ | assumption | apply Ext.drewN | apply Ext.drew | apply Ext.alloc | (refine Ext.setCell ?_ (by simp <;> omega) _) | (refine Ext.trans ?_ (by assumption))))).mono ?_); rintro e w1 ⟨rfl, hb⟩; obtain ⟨hc, hf⟩ := hb.cells; have hz := hb.size; simp at hz; have z1 : w.heap.size < w1.heap.size := (by omega); have z2 : w.heap.size + 1 < w1.heap.size := (by omega); have z3 : w.heap.size + 1 + 1 < w1.heap.size := (by omega))
  have g1 : w1.cell? ⟨w.heap.size + 1, 0, none⟩ = some (.int .i64 0) := by go_simp
  have g2 : w1.cell? ⟨w.heap.size + 1, 1, none⟩ = some (.int .i64 0) := by go_simp
  have g3 : w1.cell? ⟨w.heap.size + 1 + 1, 0, none⟩ = some (.int .i64 0) := by go_simp
  exact ⟨rev ((0, 0), k), by simp [results, Try.results17, go_sem, g1, g2, g3], rfl, (by with_reducible repeat (first | exact Ext.refl _ | assumption | apply Ext.drewN | apply Ext.drew | apply Ext.alloc | (refine Ext.setCell ?_ (by simp <;> omega) _) | (refine Ext.trans ?_ (by assumption))))⟩

set_option maxRecDepth 100000 in
set_option maxHeartbeats 1000000 in
theorem eval_ok (S : Nat → Prop) (vs : Vals) (t : Ex) (h : wrongI t = 0) (w : World) (v sl : Value) (hv : Rd S w t v) (hs : VRd S w vs sl) (x : Int × Int) (hx : valueE vs t = .ok x) :
    Calls Try.prog 17 #[v, sl] w fun e w' => e = .returned (rev (x, 0)) ∧ Ext w w' := by
  have HW := Lib.hid (fun w' (hw : Ext w w') => wrong_any S t w' v (Rd.ext hw hv))
  have hd : t.depth ≤ 12 ∧ formedB t = true := by
    unfold wrongI at h
    split at h
    · rename_i h1
      split at h
      · rename_i h2; exact ⟨h1.2, h2⟩
      · cases h
    · cases h
  have HV := Lib.hid (fun w' (hw : Ext w w') => value_any S vs 12 t hd.1 hd.2 w' v sl (Rd.ext hw hv) (hs.ext hw))
  have hsh : ∃ op n1 n2 nm base len cap, v = .agg #[.string op, .int .i64 n1, .int .i64 n2, .string nm, .slice base len cap] := by
    obtain ⟨op, n, nm, ts⟩ := t
    unfold Rd at hv
    obtain ⟨base, cap, hv, -⟩ := hv
    exact ⟨_, _, _, _, _, _, _, hv⟩
  obtain ⟨op, n1, n2, nm, base, len, cap, rfl⟩ := hsh
  clear hv hd hs
  rw [h] at HW
  rw [hx] at HV
  obtain ⟨x1, x2⟩ := x
  simp only [endE] at HV
  clear h hx
  have hmf : ∀ (fn : Fn) (first cap : Array Value) (w : World), (Instr.makeFunc fn first cap).run Try.prog w = .ok (.func fn first cap) w := fun _ _ _ _ => rfl
  go_enter_defers Try.func17, Try.ntmps17
  go_wp2_with (first
    | (go_at_call 43; (with_reducible refine (HW.out _ (by with_reducible repeat (first | exact Ext.refl _ | assumption | apply Ext.drewN | apply Ext.drew | apply Ext.alloc | (refine Ext.setCell ?_ (by simp <;> omega) _) | (refine Ext.trans ?_ (by assumption))))).mono ?_); rintro e w1 ⟨rfl, hb⟩; obtain ⟨hc, hf⟩ := hb.cells; have hz := hb.size; simp at hz; have z1 : w.heap.size < w1.heap.size := (by omega); have z2 : w.heap.size + 1 < w1.heap.size := (by omega); have z3 : w.heap.size + 1 + 1 < w1.heap.size := (by omega))
    | (go_at_call 45; (with_reducible refine (HV.out _ (by with_reducible repeat (first | exact Ext.refl _ | assumption | apply Ext.drewN | apply Ext.drew | apply Ext.alloc | (refine Ext.setCell ?_ (by simp <;> omega) _) | (refine Ext.trans ?_ (by assumption))))).mono ?_); rintro e w2 ⟨rfl, hb2⟩; obtain ⟨hc2, hf2⟩ := hb2.cells; have hz2 := hb2.size))
  have g1 : w2.cell? ⟨w.heap.size + 1, 0, none⟩ = some (.int .i64 0) := by go_simp
  have g2 : w2.cell? ⟨w.heap.size + 1, 1, none⟩ = some (.int .i64 0) := by go_simp
  have g3 : w2.cell? ⟨w.heap.size + 1 + 1, 0, none⟩ = some (.int .i64 0) := by go_simp
  refine leaves_cons (f := 44) (args := #[.pointer (some ⟨w.heap.size + 1, 0, none⟩), .pointer (some ⟨w.heap.size + 1 + 1, 0, none⟩)]) (by simp) (by simp [go_sem]) ?_
  refine (catch_idle _ _ _).mono ?_
  rintro e u' w'' ⟨rfl, rfl, rfl⟩
  exact ⟨rev ((x1, x2), 0), by simp [results, Try.results17, go_sem, g1, g2, g3], rfl, (by with_reducible repeat (first | exact Ext.refl _ | assumption | apply Ext.drewN | apply Ext.drew | apply Ext.alloc | (refine Ext.setCell ?_ (by simp <;> omega) _) | (refine Ext.trans ?_ (by assumption))))⟩

set_option maxRecDepth 100000 in
set_option maxHeartbeats 1000000 in
theorem eval_err (S : Nat → Prop) (vs : Vals) (t : Ex) (h : wrongI t = 0) (w : World) (v sl : Value) (hv : Rd S w t v) (hs : VRd S w vs sl) (f : Int) (hx : valueE vs t = .error f) :
    Calls Try.prog 17 #[v, sl] w fun e w' => e = .returned (rev ((0, 0), f)) ∧ Ext w w' := by
  have HW := Lib.hid (fun w' (hw : Ext w w') => wrong_any S t w' v (Rd.ext hw hv))
  have hd : t.depth ≤ 12 ∧ formedB t = true := by
    unfold wrongI at h
    split at h
    · rename_i h1
      split at h
      · rename_i h2; exact ⟨h1.2, h2⟩
      · cases h
    · cases h
  have HV := Lib.hid (fun w' (hw : Ext w w') => value_any S vs 12 t hd.1 hd.2 w' v sl (Rd.ext hw hv) (hs.ext hw))
  have hsh : ∃ op n1 n2 nm base len cap, v = .agg #[.string op, .int .i64 n1, .int .i64 n2, .string nm, .slice base len cap] := by
    obtain ⟨op, n, nm, ts⟩ := t
    unfold Rd at hv
    obtain ⟨base, cap, hv, -⟩ := hv
    exact ⟨_, _, _, _, _, _, _, hv⟩
  obtain ⟨op, n1, n2, nm, base, len, cap, rfl⟩ := hsh
  clear hv hd hs
  rw [h] at HW
  rw [hx] at HV
  simp only [endE] at HV
  clear h hx
  have hmf : ∀ (fn : Fn) (first cap : Array Value) (w : World), (Instr.makeFunc fn first cap).run Try.prog w = .ok (.func fn first cap) w := fun _ _ _ _ => rfl
  go_enter_defers Try.func17, Try.ntmps17
  go_wp2_with (first
    | (go_at_call 43; (with_reducible refine (HW.out _ (by with_reducible repeat (first | exact Ext.refl _ | assumption | apply Ext.drewN | apply Ext.drew | apply Ext.alloc | (refine Ext.setCell ?_ (by simp <;> omega) _) | (refine Ext.trans ?_ (by assumption))))).mono ?_); rintro e w1 ⟨rfl, hb⟩; obtain ⟨hc, hf⟩ := hb.cells; have hz := hb.size; simp at hz; have z1 : w.heap.size < w1.heap.size := (by omega); have z2 : w.heap.size + 1 < w1.heap.size := (by omega); have z3 : w.heap.size + 1 + 1 < w1.heap.size := (by omega))
    | (go_at_call 45; (with_reducible refine (HV.out _ (by with_reducible repeat (first | exact Ext.refl _ | assumption | apply Ext.drewN | apply Ext.drew | apply Ext.alloc | (refine Ext.setCell ?_ (by simp <;> omega) _) | (refine Ext.trans ?_ (by assumption))))).mono ?_); rintro e w2 ⟨rfl, hb2⟩; obtain ⟨hc2, hf2⟩ := hb2.cells; have hz2 := hb2.size))
  have g1 : w2.cell? ⟨w.heap.size + 1, 0, none⟩ = some (.int .i64 0) := by go_simp
  have g2 : w2.cell? ⟨w.heap.size + 1, 1, none⟩ = some (.int .i64 0) := by go_simp
  have g3 : w2.cell? ⟨w.heap.size + 1 + 1, 0, none⟩ = some (.int .i64 0) := by go_simp
  have p1 : w2.frozen? ⟨w.heap.size + 1, 0, none⟩ = false := by go_simp
  have p2 : w2.frozen? ⟨w.heap.size + 1, 1, none⟩ = false := by go_simp
  have p3 : w2.frozen? ⟨w.heap.size + 1 + 1, 0, none⟩ = false := by go_simp
  have hx2 : Ext w w2 := (by with_reducible repeat (first | exact Ext.refl _ | assumption | apply Ext.drewN | apply Ext.drew | apply Ext.alloc | (refine Ext.setCell ?_ (by simp <;> omega) _) | (refine Ext.trans ?_ (by assumption))))
  refine leaves_cons (f := 44) (args := #[.pointer (some ⟨w.heap.size + 1, 0, none⟩), .pointer (some ⟨w.heap.size + 1 + 1, 0, none⟩)]) (by simp) (by simp [go_sem]) ?_
  refine (catch_panic w.heap.size (w.heap.size + 1) (w.heap.size + 1 + 1) f _ _ _ [] _ g1 g2 g3 p1 p2 p3 (by omega) (by omega) (by omega) hx2.size).mono ?_
  rintro e u' w'' ⟨rfl, rfl, c1, c2, c3, hbb⟩
  exact ⟨rev ((0, 0), f), by simp [results, Try.results17, go_sem, c1, c2, c3], rfl, Below.trans hx2 hbb⟩

theorem eval_any (S : Nat → Prop) (vs : Vals) (t : Ex) (w : World) (v sl : Value) (hv : Rd S w t v) (hs : VRd S w vs sl) :
    Calls Try.prog 17 #[v, sl] w fun e w' => e = .returned (rev (evalI vs t)) ∧ Ext w w' := by
  unfold evalI
  by_cases h : wrongI t = 0
  · rw [if_pos h]
    cases hx : valueE vs t with
    | ok x => exact eval_ok S vs t h w v sl hv hs x hx
    | error f => exact eval_err S vs t h w v sl hv hs f hx
  · rw [if_neg h]
    exact eval_wrong S vs t h w v sl hv
end Go.Proofs.Ytgkdeknfmmgbdaa

namespace Go.Proofs.Ytgkdeknfmmgbdaa
set_option linter.unusedVariables false
set_option linter.unusedSimpArgs false
open Go.RowKit

abbrev numB : ByteArray := ⟨#[110, 117, 109]⟩
abbrev nameB : ByteArray := ⟨#[110, 97, 109, 101]⟩
abbrev nilB : ByteArray := ⟨#[]⟩
abbrev leaf (op : ByteArray) (n : Int × Int) (nm : ByteArray) : Ex := .mk op n nm []
abbrev leafV (op : ByteArray) (n : Int × Int) (nm : ByteArray) : Value := .agg #[.string op, .int .i64 n.1, .int .i64 n.2, .string nm, .slice none 0 0]
abbrev numE (n : Int × Int) : Ex := leaf numB n nilB
abbrev nameE (nm : ByteArray) : Ex := leaf nameB (0, 0) nm

theorem I2.zero : I2 (0, 0) := ⟨by decide, by decide, by decide, by decide⟩
theorem I2.int {n : Int} (h1 : -9223372036854775808 ≤ n) (h2 : n ≤ 9223372036854775807) : I2 (n, 1) := ⟨h1, h2, by show (-9223372036854775808 : Int) ≤ 1; decide, by show (1 : Int) ≤ 9223372036854775807; decide⟩
theorem Rd.leaf {S : Nat → Prop} {w : World} {op : ByteArray} {n : Int × Int} {nm : ByteArray} (h : I2 n) : Rd S w (leaf op n nm) (leafV op n nm) := by
  unfold Rd
  exact ⟨none, 0, rfl, h, by simp, .inl rfl⟩

theorem num_any (n : Int) (w : World) : Calls Try.prog 31 #[.int .i64 n] w fun e w' => e = .returned (leafV numB (n, 1) nilB) ∧ Ext w w' := by
  go_enter Try.func31, Try.ntmps31
  go_wp2
  exact bodyPost_ret (v := leafV numB (n, 1) nilB) (by simp [results, Try.results31, go_sem]) rfl ⟨rfl, (by with_reducible repeat (first | exact Ext.refl _ | assumption | apply Ext.drewN | apply Ext.drew | apply Ext.alloc | (refine Ext.setCell ?_ (by simp <;> omega) _) | (refine Ext.trans ?_ (by assumption))))⟩
theorem name_any (nm : ByteArray) (w : World) : Calls Try.prog 30 #[.string nm] w fun e w' => e = .returned (leafV nameB (0, 0) nm) ∧ Ext w w' := by
  go_enter Try.func30, Try.ntmps30
  go_wp2
  exact bodyPost_ret (v := leafV nameB (0, 0) nm) (by simp [results, Try.results30, go_sem]) rfl ⟨rfl, (by with_reducible repeat (first | exact Ext.refl _ | assumption | apply Ext.drewN | apply Ext.drew | apply Ext.alloc | (refine Ext.setCell ?_ (by simp <;> omega) _) | (refine Ext.trans ?_ (by assumption))))⟩

theorem block_new {w : World} {o : Obj} {n : Nat} (h : w.heap.size = n) : (w.alloc o).heap[n]? = some o := by
  rw [← h]; exact heap_alloc_new w o

set_option maxRecDepth 100000 in
set_option maxHeartbeats 1000000 in
theorem op_walk (s : ByteArray) (a0 a1 a2 a3 a4 b0 b1 b2 b3 b4 : Value) (w : World) : Calls Try.prog 24 #[.string s, .agg #[a0, a1, a2, a3, a4], .agg #[b0, b1, b2, b3, b4]] w fun e w' =>
    ∃ p, e = .returned (.agg #[.string s, .int .i64 0, .int .i64 0, .string nilB, .slice (some ⟨p, 0, none⟩) 2 2]) ∧ w.heap.size ≤ p ∧ w'.heap[p]? = some (.cells #[a0, a1, a2, a3, a4, b0, b1, b2, b3, b4] 29) ∧ Ext w w' := by
  go_enter Try.func24, Try.ntmps24
  go_wp2
  exact bodyPost_ret (v := .agg #[.string s, .int .i64 0, .int .i64 0, .string nilB, .slice (some ⟨w.heap.size + 1 + 1 + 1, 0, none⟩) 2 2]) (by simp [results, Try.results24, go_sem]) rfl ⟨_, rfl, by omega, block_new (by simp), (by with_reducible repeat (first | exact Ext.refl _ | assumption | apply Ext.drewN | apply Ext.drew | apply Ext.alloc | (refine Ext.setCell ?_ (by simp <;> omega) _) | (refine Ext.trans ?_ (by assumption))))⟩

def at5 (a0 a1 a2 a3 a4 : Value) : Nat → Value
  | 0 => a0 | 1 => a1 | 2 => a2 | 3 => a3 | _ => a4
theorem Rd.vals {S : Nat → Prop} {w : World} {t : Ex} {v : Value} (h : Rd S w t v) : ∃ a0 a1 a2 a3 a4, v = .agg #[a0, a1, a2, a3, a4] := by
  obtain ⟨op, n, nm, ts⟩ := t
  unfold Rd at h
  obtain ⟨base, cap, hv, -⟩ := h
  exact ⟨_, _, _, _, _, hv⟩
theorem cells10 {w : World} {p : Nat} {a0 a1 a2 a3 a4 b0 b1 b2 b3 b4 : Value} {t : TypeId} (h : w.heap[p]? = some (.cells #[a0, a1, a2, a3, a4, b0, b1, b2, b3, b4] t)) :
    cellsE w p 0 (at5 a0 a1 a2 a3 a4) ∧ cellsE w p 1 (at5 b0 b1 b2 b3 b4) := by
  constructor
  · intro j hj
    rw [cell_of_row w p _ _ _ _ h]
    match j, hj with
    | 0, _ => rfl
    | 1, _ => rfl
    | 2, _ => rfl
    | 3, _ => rfl
    | 4, _ => rfl
  · intro j hj
    rw [cell_of_row w p _ _ _ _ h]
    match j, hj with
    | 0, _ => rfl
    | 1, _ => rfl
    | 2, _ => rfl
    | 3, _ => rfl
    | 4, _ => rfl

theorem op_any (S : Nat → Prop) (s : ByteArray) (ta tb : Ex) (w : World) (va vb : Value) (ha : Rd S w ta va) (hb : Rd S w tb vb) (hS : ∀ b, w.heap.size ≤ b → S b) :
    Calls Try.prog 24 #[.string s, va, vb] w fun e w' => ∃ v, e = .returned v ∧ Ext w w' ∧ Rd S w' (.mk s (0, 0) nilB [ta, tb]) v := by
  obtain ⟨a0, a1, a2, a3, a4, rfl⟩ := ha.vals
  obtain ⟨b0, b1, b2, b3, b4, rfl⟩ := hb.vals
  refine (op_walk s a0 a1 a2 a3 a4 b0 b1 b2 b3 b4 w).mono ?_
  rintro e w' ⟨p, rfl, hp, hh, hx⟩
  refine ⟨_, rfl, hx, ?_⟩
  obtain ⟨h0, h1⟩ := cells10 hh
  unfold Rd
  refine ⟨_, _, rfl, I2.zero, by simp, .inr ⟨p, rfl, hS p hp, ?_⟩⟩
  unfold RdL
  refine ⟨⟨_, h0, ha.ext hx⟩, ?_⟩
  unfold RdL
  exact ⟨⟨_, h1, hb.ext hx⟩, by unfold RdL; trivial⟩
end Go.Proofs.Ytgkdeknfmmgbdaa

namespace Go.Proofs.Ytgkdeknfmmgbdaa
set_option linter.unusedVariables false
set_option linter.unusedSimpArgs false
open Go.RowKit

def Ex.op : Ex → ByteArray
  | .mk op _ _ _ => op
def Ex.num : Ex → Int × Int
  | .mk _ n _ _ => n
def foldTwo (op : ByteArray) (a b : Ex) : Ex :=
  if a.op.toList == [110, 117, 109] && b.op.toList == [110, 117, 109] then
    (if (applyI (opIx op).toNat a.num b.num).2 = 0 then numE (applyI (opIx op).toNat a.num b.num).1 else .mk op (0, 0) nilB [a, b])
  else .mk op (0, 0) nilB [a, b]
mutual
def foldE : Ex → Ex
  | .mk op n nm ts => match foldL ts with
    | [a, b] => foldTwo op a b
    | _ => .mk op n nm ts
def foldL : List Ex → List Ex
  | [] => []
  | t :: ts => foldE t :: foldL ts
end

mutual
/-- No part has just one part. -/
def twoB : Ex → Bool
  | .mk _ _ _ ts => ts.length != 1 && twoL ts
def twoL : List Ex → Bool
  | [] => true
  | t :: ts => twoB t && twoL ts
end
mutual
theorem Rd.big {S : Nat → Prop} {w : World} : ∀ (t : Ex) (v : Value), twoB t = true → Rd S w t v → Rd (fun b => S b ∧ ∃ u, w.cell? ⟨b, 5, none⟩ = some u) w t v
  | .mk op n nm args, v, h, r => by
    unfold Rd at r ⊢
    rw [twoB, Bool.and_eq_true] at h
    obtain ⟨base, cap, hv, hn, hn2, hr⟩ := r
    refine ⟨base, cap, hv, hn, hn2, ?_⟩
    rcases hr with rfl | ⟨b, hb, hs, hl⟩
    · exact .inl rfl
    · match args, h, hl with
      | [], _, _ => exact .inl rfl
      | [_], h, _ => simp at h
      | t1 :: t2 :: ts, h, hl =>
        refine .inr ⟨b, hb, ⟨hs, ?_⟩, RdL.big (t1 :: t2 :: ts) b 0 h.2 hl⟩
        unfold RdL at hl
        obtain ⟨-, hl⟩ := hl
        unfold RdL at hl
        obtain ⟨⟨c, hc, -⟩, -⟩ := hl
        exact ⟨_, hc 0 (by decide)⟩
theorem RdL.big {S : Nat → Prop} {w : World} : ∀ (ts : List Ex) (b k : Nat), twoL ts = true → RdL S w b k ts → RdL (fun b => S b ∧ ∃ u, w.cell? ⟨b, 5, none⟩ = some u) w b k ts
  | [], _, _, _, _ => by unfold RdL; trivial
  | t :: ts, b, k, h, r => by
    rw [twoL, Bool.and_eq_true] at h
    unfold RdL at r ⊢
    obtain ⟨⟨c, hc, hr⟩, hl⟩ := r
    exact ⟨⟨c, hc, Rd.big t _ h.1 hr⟩, RdL.big ts b (k + 1) h.2 hl⟩
end

set_option maxRecDepth 100000 in
set_option maxHeartbeats 1000000 in
theorem fold_leaf (op : ByteArray) (n : Int × Int) (nm : ByteArray) (base : Option Addr) (cap : Nat) (w : World) :
    Calls Try.prog 47 #[.agg #[.string op, .int .i64 n.1, .int .i64 n.2, .string nm, .slice base 0 cap]] w fun e w' => e = .returned (.agg #[.string op, .int .i64 n.1, .int .i64 n.2, .string nm, .slice base 0 cap]) ∧ Ext w w' := by
  go_enter Try.func47, Try.ntmps47
  go_wp2
  exact bodyPost_ret (v := .agg #[.string op, .int .i64 n.1, .int .i64 n.2, .string nm, .slice base 0 cap]) (by simp [results, Try.results47, go_sem]) rfl ⟨rfl, (by with_reducible repeat (first | exact Ext.refl _ | assumption | apply Ext.drewN | apply Ext.drew | apply Ext.alloc | (refine Ext.setCell ?_ (by simp <;> omega) _) | (refine Ext.trans ?_ (by assumption))))⟩

/-- The new tree, where nothing that its parts lie in has turned. -/
theorem fold_done {S : Nat → Prop} {wd wz : World} {r N : Nat} {op of mf og mg : ByteArray} {nf1 nf2 ng1 ng2 : Int} {tf tg : List Ex} {bf bg : Option Addr} {cf cg : Nat} (h2a : twoB (.mk of (nf1, nf2) mf tf) = true) (h2b : twoB (.mk og (ng1, ng2) mg tg) = true)
    (r1 : Rd S wd (.mk of (nf1, nf2) mf tf) (.agg #[.string of, .int .i64 nf1, .int .i64 nf2, .string mf, .slice bf tf.length cf])) (r2 : Rd S wd (.mk og (ng1, ng2) mg tg) (.agg #[.string og, .int .i64 ng1, .int .i64 ng2, .string mg, .slice bg tg.length cg]))
    (h5 : wd.cell? ⟨r, 5, none⟩ = none) (far : ∀ b o, ¬ b = r → b < wd.heap.size → wz.cell? ⟨b, o, none⟩ = wd.cell? ⟨b, o, none⟩) (hS : S N)
    (hN : wz.heap[N]? = some (.cells #[.string of, .int .i64 nf1, .int .i64 nf2, .string mf, .slice bf tf.length cf, .string og, .int .i64 ng1, .int .i64 ng2, .string mg, .slice bg tg.length cg] 29)) :
    Rd S wz (.mk op (0, 0) nilB [.mk of (nf1, nf2) mf tf, .mk og (ng1, ng2) mg tg]) (.agg #[.string op, .int .i64 0, .int .i64 0, .string nilB, .slice (some ⟨N, 0, none⟩) 2 2]) := by
  have hfar : ∀ b o, (S b ∧ ∃ u, wd.cell? ⟨b, 5, none⟩ = some u) → b < wd.heap.size → wz.cell? ⟨b, o, none⟩ = wd.cell? ⟨b, o, none⟩ := by
    rintro b o ⟨-, u, hu⟩ hb
    exact far b o (by rintro rfl; rw [h5] at hu; cases hu) hb
  obtain ⟨h0, h1⟩ := cells10 hN
  have k1 := Rd.frame hfar (fun _ h => h.1) _ _ (Rd.big _ _ h2a r1)
  have k2 := Rd.frame hfar (fun _ h => h.1) _ _ (Rd.big _ _ h2b r2)
  unfold Rd
  refine ⟨_, _, rfl, I2.zero, by simp, .inr ⟨N, rfl, hS, ?_⟩⟩
  unfold RdL
  refine ⟨⟨_, h0, k1⟩, ?_⟩
  unfold RdL
  exact ⟨⟨_, h1, k2⟩, by unfold RdL; trivial⟩

set_option maxRecDepth 100000 in
set_option maxHeartbeats 2000000 in
theorem fold_op (T S : Nat → Prop) (op : ByteArray) (n : Int × Int) (nm : ByteArray) (ta tb : Ex) (hi : ¬ opIx op = -1)
    (w : World) (v : Value) (hv : Rd T w (.mk op n nm [ta, tb]) v) (hS : ∀ b, w.heap.size ≤ b → S b) (fa fb : Ex) (h2a : twoB fa = true) (h2b : twoB fb = true)
    (ia : ∀ (w' : World) (v : Value), Rd T w' ta v → w.heap.size ≤ w'.heap.size → Calls Try.prog 47 #[v] w' fun e w'' => ∃ v', e = .returned v' ∧ Ext w' w'' ∧ Rd S w'' fa v')
    (ib : ∀ (w' : World) (v : Value), Rd T w' tb v → w.heap.size ≤ w'.heap.size → Calls Try.prog 47 #[v] w' fun e w'' => ∃ v', e = .returned v' ∧ Ext w' w'' ∧ Rd S w'' fb v') :
    Calls Try.prog 47 #[v] w fun e w' => ∃ v', e = .returned v' ∧ Ext w w' ∧ Rd S w' (foldTwo op fa fb) v' := by
  obtain ⟨of, ⟨nf1, nf2⟩, mf, tf⟩ := fa
  obtain ⟨og, ⟨ng1, ng2⟩, mg, tg⟩ := fb
  unfold Rd at hv
  obtain ⟨base, cap, rfl, -, -, hr⟩ := hv
  rcases hr with hr | ⟨b, rfl, -, hl⟩
  · cases hr
  obtain ⟨c, hc, hra⟩ := hl.get 0 (by simp)
  obtain ⟨d, hd, hrb⟩ := hl.get 1 (by simp)
  obtain ⟨oa, a1, a2, na, ba, la, ca, c0, c1, c2, c3, c4, ea⟩ := hra.shape
  obtain ⟨ob, b1, b2, nb, bb, lb, cb, d0, d1, d2, d3, d4, eb⟩ := hrb.shape
  simp only [List.getElem_cons_zero, List.getElem_cons_succ] at hra hrb
  rw [ea] at hra
  rw [eb] at hrb
  have hbl : b < w.heap.size := World.block_lt_of_cell? w _ (hc 0 (by decide))
  have k0 := (hc 0 (by decide)).trans (congrArg some c0)
  have k1 := (hc 1 (by decide)).trans (congrArg some c1)
  have k2 := (hc 2 (by decide)).trans (congrArg some c2)
  have k3 := (hc 3 (by decide)).trans (congrArg some c3)
  have k4 := (hc 4 (by decide)).trans (congrArg some c4)
  have k5 := (hd 0 (by decide)).trans (congrArg some d0)
  have k6 := (hd 1 (by decide)).trans (congrArg some d1)
  have k7 := (hd 2 (by decide)).trans (congrArg some d2)
  have k8 := (hd 3 (by decide)).trans (congrArg some d3)
  have k9 := (hd 4 (by decide)).trans (congrArg some d4)
  simp only [Nat.zero_add, Nat.zero_mul, Nat.add_zero, Nat.one_mul, Nat.reduceAdd] at k0 k1 k2 k3 k4 k5 k6 k7 k8 k9
  have IA := Lib.hid (fun w' (hw : Ext w w') => ia w' _ (Rd.ext hw hra) hw.size)
  have IB := Lib.hid (fun w' (hw : Ext w w') => ib w' _ (Rd.ext hw hrb) hw.size)
  have HF := Lib.hid (find_some op hi)
  clear hc hd c0 c1 c2 c3 c4 d0 d1 d2 d3 d4 ea eb hra hrb hl ia ib
  have g1 : b < w.heap.size + 1 := by omega
  have g2 : b < w.heap.size + 1 + 1 := by omega
  go_enter Try.func47, Try.ntmps47
  go_wp2_with (fail)
  have hx1 : Ext w ((w.alloc (.cells #[.string op, .int .i64 n.1, .int .i64 n.2, .string nm, .slice (some ⟨b, 0, none⟩) 2 cap] 29)).alloc (.cells #[.string ⟨#[]⟩, .int .i64 0, .int .i64 0, .string ⟨#[]⟩, .slice none 0 0] 29)) := (by with_reducible repeat (first | exact Ext.refl _ | assumption | apply Ext.drewN | apply Ext.drew | apply Ext.alloc | (refine Ext.setCell ?_ (by simp <;> omega) _) | (refine Ext.trans ?_ (by assumption))))
  have hw1 : ((w.alloc (.cells #[.string op, .int .i64 n.1, .int .i64 n.2, .string nm, .slice (some ⟨b, 0, none⟩) 2 cap] 29)).alloc (.cells #[.string ⟨#[]⟩, .int .i64 0, .int .i64 0, .string ⟨#[]⟩, .slice none 0 0] 29)).heap[w.heap.size]? = some (.cells #[.string op, .int .i64 n.1, .int .i64 n.2, .string nm, .slice (some ⟨b, 0, none⟩) 2 cap] 29) := by
    rw [Below.heap_alloc _ _ _ (by simp)]; exact block_new rfl
  have hw2 : ((w.alloc (.cells #[.string op, .int .i64 n.1, .int .i64 n.2, .string nm, .slice (some ⟨b, 0, none⟩) 2 cap] 29)).alloc (.cells #[.string ⟨#[]⟩, .int .i64 0, .int .i64 0, .string ⟨#[]⟩, .slice none 0 0] 29)).heap[w.heap.size + 1]? = some (.cells #[.string ⟨#[]⟩, .int .i64 0, .int .i64 0, .string ⟨#[]⟩, .slice none 0 0] 29) := block_new (by simp)
  generalize (w.alloc (.cells #[.string op, .int .i64 n.1, .int .i64 n.2, .string nm, .slice (some ⟨b, 0, none⟩) 2 cap] 29)).alloc (.cells #[.string ⟨#[]⟩, .int .i64 0, .int .i64 0, .string ⟨#[]⟩, .slice none 0 0] 29) = W at *
  have cw := hx1.cells.1
  have j0 := (cw b 0 hbl).trans k0
  have j1 := (cw b 1 hbl).trans k1
  have j2 := (cw b 2 hbl).trans k2
  have j3 := (cw b 3 hbl).trans k3
  have j4 := (cw b 4 hbl).trans k4
  have j5 := (cw b 5 hbl).trans k5
  have j6 := (cw b 6 hbl).trans k6
  have j7 := (cw b 7 hbl).trans k7
  have j8 := (cw b 8 hbl).trans k8
  have j9 := (cw b 9 hbl).trans k9
  have e4 : W.cell? ⟨w.heap.size, 4, none⟩ = some (.slice (some ⟨b, 0, none⟩) 2 cap) := by rw [cell_of_row W _ _ _ _ _ hw1]; rfl
  have s1 : w.heap.size < W.heap.size := Rg.lt_of_heap hw1
  have s2 : w.heap.size + 1 < W.heap.size := Rg.lt_of_heap hw2
  have s5 : b < W.heap.size := by omega
  clear cw k0 k1 k2 k3 k4 k5 k6 k7 k8 k9 g1 g2
  go_cut [3, 4] (fun s3 s4 wx => ∃ (p q : Nat) (bf : Option Addr) (cf : Nat) (bg : Option Addr) (cg : Nat), s3 = .pointer (some ⟨p, 0, none⟩) ∧ s4 = .pointer (some ⟨q, 0, none⟩) ∧ p < wx.heap.size ∧ q < wx.heap.size ∧
    cellsE wx p 0 (at5 (.string of) (.int .i64 nf1) (.int .i64 nf2) (.string mf) (.slice bf tf.length cf)) ∧ cellsE wx q 0 (at5 (.string og) (.int .i64 ng1) (.int .i64 ng2) (.string mg) (.slice bg tg.length cg)) ∧
    Rd S wx (.mk of (nf1, nf2) mf tf) (.agg #[.string of, .int .i64 nf1, .int .i64 nf2, .string mf, .slice bf tf.length cf]) ∧ Rd S wx (.mk og (ng1, ng2) mg tg) (.agg #[.string og, .int .i64 ng1, .int .i64 ng2, .string mg, .slice bg tg.length cg]) ∧ Ext W wx)
  case first =>
    refine Rr.wp_region [(0, .y), (1, .y), (2, .y), (3, .y), (5, .y), (6, .y), (7, .y), (8, .y), (4, .z), (9, .z), (10, .m), (11, .m)] (fun _ => (.cells #[.string ⟨#[]⟩, .int .i64 0, .int .i64 0, .string ⟨#[]⟩, .slice none 0 0] 29, Rg.ptr)) (by kernel_rfl) (by kernel_rfl) ?_
    (refine Rr.wr_y (by simp only [List.getElem?_toArray, List.getElem?_cons_succ, List.getElem?_cons_zero]; rfl) (by rfl) ?_
     apply Exists.intro
     refine ⟨fun wz hw _ => ?_, ?_⟩
     · have hcz := hw.cells.1
       go_simp
       (with_reducible exact Rg.up_value)
     simp only [Act.put, List.setIfInBounds_toArray, List.set_cons_zero, List.set_cons_succ])
    (refine Rr.wr_y (by simp only [List.getElem?_toArray, List.getElem?_cons_succ, List.getElem?_cons_zero]; rfl) (by rfl) ?_
     apply Exists.intro
     refine ⟨fun wz hw _ => ?_, ?_⟩
     · have hcz := hw.cells.1
       go_simp
       (with_reducible exact Rg.up_value)
     simp only [Act.put, List.setIfInBounds_toArray, List.set_cons_zero, List.set_cons_succ])
    (refine Rr.wr_y (by simp only [List.getElem?_toArray, List.getElem?_cons_succ, List.getElem?_cons_zero]; rfl) (by rfl) ?_
     apply Exists.intro
     refine ⟨fun wz hw _ => ?_, ?_⟩
     · have hcz := hw.cells.1
       go_simp
       (with_reducible exact Rg.up_value)
     simp only [Act.put, List.setIfInBounds_toArray, List.set_cons_zero, List.set_cons_succ])
    (refine Rr.wr_y (by simp only [List.getElem?_toArray, List.getElem?_cons_succ, List.getElem?_cons_zero]; rfl) (by rfl) ?_
     apply Exists.intro
     refine ⟨fun wz hw _ => ?_, ?_⟩
     · have hcz := hw.cells.1
       exact up_load29 (by rfl) ((hcz _ _ s5).trans j0) ((hcz _ _ s5).trans j1) ((hcz _ _ s5).trans j2) ((hcz _ _ s5).trans j3) ((hcz _ _ s5).trans j4)
     simp only [Act.put, List.setIfInBounds_toArray, List.set_cons_zero, List.set_cons_succ])
    (refine Rr.wr_y (by simp only [List.getElem?_toArray, List.getElem?_cons_succ, List.getElem?_cons_zero]; rfl) (by rfl) ?_
     apply Exists.intro
     refine ⟨fun wz hw _ => ?_, ?_⟩
     · have hcz := hw.cells.1
       go_simp
       (with_reducible exact Rg.up_value)
     simp only [Act.put, List.setIfInBounds_toArray, List.set_cons_zero, List.set_cons_succ])
    (refine Rr.wr_y (by simp only [List.getElem?_toArray, List.getElem?_cons_succ, List.getElem?_cons_zero]; rfl) (by rfl) ?_
     apply Exists.intro
     refine ⟨fun wz hw _ => ?_, ?_⟩
     · have hcz := hw.cells.1
       go_simp
       (with_reducible exact Rg.up_value)
     simp only [Act.put, List.setIfInBounds_toArray, List.set_cons_zero, List.set_cons_succ])
    (refine Rr.wr_y (by simp only [List.getElem?_toArray, List.getElem?_cons_succ, List.getElem?_cons_zero]; rfl) (by rfl) ?_
     apply Exists.intro
     refine ⟨fun wz hw _ => ?_, ?_⟩
     · have hcz := hw.cells.1
       go_simp
       (with_reducible exact Rg.up_value)
     simp only [Act.put, List.setIfInBounds_toArray, List.set_cons_zero, List.set_cons_succ])
    (refine Rr.wr_y (by simp only [List.getElem?_toArray, List.getElem?_cons_succ, List.getElem?_cons_zero]; rfl) (by rfl) ?_
     apply Exists.intro
     refine ⟨fun wz hw _ => ?_, ?_⟩
     · have hcz := hw.cells.1
       exact up_load29 (by rfl) ((hcz _ _ s5).trans j5) ((hcz _ _ s5).trans j6) ((hcz _ _ s5).trans j7) ((hcz _ _ s5).trans j8) ((hcz _ _ s5).trans j9)
     simp only [Act.put, List.setIfInBounds_toArray, List.set_cons_zero, List.set_cons_succ])
    refine Rr.wr_z (fun v w' => Rd S w' (.mk of (nf1, nf2) mf tf) v) (by simp only [List.getElem?_toArray, List.getElem?_cons_succ, List.getElem?_cons_zero]; rfl) (by rfl) (fun v w1 w2 h e => by first | exact Rd.ext e h | exact h.ext e) (fun wz hw hh => ?_) (fun u => ?_)
    · have hcz := hw.cells.1
      go_simp
      apply Rr.upR_enter
      (with_reducible refine (IA.out _ (by with_reducible repeat (first | exact Ext.refl _ | assumption | apply Ext.drewN | apply Ext.drew | apply Ext.alloc | (refine Ext.setCell ?_ (by simp <;> omega) _) | (refine Ext.trans ?_ (by assumption))))).mono ?_)
      rintro e w3 ⟨v3, rfl, hx3, hr3⟩
      exact ⟨v3, rfl, hx3, hr3⟩
    simp only [Act.put, List.setIfInBounds_toArray, List.set_cons_zero, List.set_cons_succ]
    refine Rr.wr_z (fun v w' => Rd S w' (.mk og (ng1, ng2) mg tg) v) (by simp only [List.getElem?_toArray, List.getElem?_cons_succ, List.getElem?_cons_zero]; rfl) (by rfl) (fun v w1 w2 h e => by first | exact Rd.ext e h | exact h.ext e) (fun wz hw hh => ?_) (fun u => ?_)
    · have hcz := hw.cells.1
      go_simp
      apply Rr.upR_enter
      (with_reducible refine (IB.out _ (by with_reducible repeat (first | exact Ext.refl _ | assumption | apply Ext.drewN | apply Ext.drew | apply Ext.alloc | (refine Ext.setCell ?_ (by simp <;> omega) _) | (refine Ext.trans ?_ (by assumption))))).mono ?_)
      rintro e w3 ⟨v3, rfl, hx3, hr3⟩
      exact ⟨v3, rfl, hx3, hr3⟩
    simp only [Act.put, List.setIfInBounds_toArray, List.set_cons_zero, List.set_cons_succ]
    refine Rr.wr_m (by simp only [List.getElem?_toArray, List.getElem?_cons_succ, List.getElem?_cons_zero]; rfl) (by rfl) (fun wz => by go_simp) (fun p hp => ?_)
    simp only [Act.put, List.setIfInBounds_toArray, List.set_cons_zero, List.set_cons_succ]
    refine Rr.wr_m (by simp only [List.getElem?_toArray, List.getElem?_cons_succ, List.getElem?_cons_zero]; rfl) (by rfl) (fun wz => by go_simp) (fun q hq => ?_)
    simp only [Act.put, List.setIfInBounds_toArray, List.set_cons_zero, List.set_cons_succ]
    refine Rr.wr_nil ?_
    intro wy hy hh
    have hq1 := hh _ List.mem_cons_self
    have hp1 := hh _ (List.mem_cons_of_mem _ List.mem_cons_self)
    have hr2 := hh _ (List.mem_cons_of_mem _ (List.mem_cons_of_mem _ List.mem_cons_self))
    have hr1 := hh _ (List.mem_cons_of_mem _ (List.mem_cons_of_mem _ (List.mem_cons_of_mem _ List.mem_cons_self)))
    obtain ⟨q1, q2⟩ := hq1
    obtain ⟨p1, p2⟩ := hp1
    have hr3 := hr1
    have hr4 := hr2
    unfold Rd at hr3 hr4
    obtain ⟨bf, cf, rfl, -, -, -⟩ := hr3
    obtain ⟨bg, cg, rfl, -, -, -⟩ := hr4
    obtain ⟨cp, fp, lp⟩ := Rg.cells_of p2
    obtain ⟨cq, fq, lq⟩ := Rg.cells_of q2
    have hpq : ¬ p = q := fun e => hq (by rw [e]; exact List.mem_cons_self)
    have hqp : ¬ q = p := fun e => hpq e.symm
    simp only [List.length_cons, List.length_nil, List.drop_succ_cons, List.drop_zero, Nat.reduceAdd]
    have HR1 := Lib.hid hr1; have HR2 := Lib.hid hr2
    clear hr1 hr2 hh
    go_wp2
    go_meet
    case rel =>
      have far : ∀ b o, (S b ∧ ∃ u, wy.cell? ⟨b, 5, none⟩ = some u) → b < wy.heap.size → ((((((((((wy.setCell ⟨p, 0, none⟩ (.string of)).setCell ⟨p, 1, none⟩ (.int .i64 nf1)).setCell ⟨p, 2, none⟩ (.int .i64 nf2)).setCell ⟨p, 3, none⟩ (.string mf)).setCell ⟨p, 4, none⟩ (.slice bf tf.length cf)).setCell ⟨q, 0, none⟩ (.string og)).setCell ⟨q, 1, none⟩ (.int .i64 ng1)).setCell ⟨q, 2, none⟩ (.int .i64 ng2)).setCell ⟨q, 3, none⟩ (.string mg)).setCell ⟨q, 4, none⟩ (.slice bg tg.length cg)).cell? ⟨b, o, none⟩ = wy.cell? ⟨b, o, none⟩ := by
        rintro b o ⟨-, u, hu⟩ -
        have h1 : ¬ b = p := by rintro rfl; rw [cp 5] at hu; cases hu
        have h2 : ¬ b = q := by rintro rfl; rw [cq 5] at hu; cases hu
        have h3 : ¬ p = b := fun e => h1 e.symm
        have h4 : ¬ q = b := fun e => h2 e.symm
        go_simp
      refine ⟨p, q, bf, cf, bg, cg, rfl, rfl, by simpa using lp, by simpa using lq, ?_, ?_, ?_, ?_, ?_⟩
      · intro j hj
        match j, hj with
        | 0, _ => go_simp; rfl
        | 1, _ => go_simp; rfl
        | 2, _ => go_simp; rfl
        | 3, _ => go_simp; rfl
        | 4, _ => go_simp; rfl
      · intro j hj
        match j, hj with
        | 0, _ => go_simp; rfl
        | 1, _ => go_simp; rfl
        | 2, _ => go_simp; rfl
        | 3, _ => go_simp; rfl
        | 4, _ => go_simp; rfl
      · exact Rd.frame far (fun _ h => h.1) _ _ (Rd.big _ _ h2a HR1.out)
      · exact Rd.frame far (fun _ h => h.1) _ _ (Rd.big _ _ h2b HR2.out)
      · exact (by with_reducible repeat (first | exact Ext.refl _ | assumption | apply Ext.drewN | apply Ext.drew | apply Ext.alloc | (refine Ext.setCell ?_ (by simp <;> omega) _) | (refine Ext.trans ?_ (by assumption))))
  case rest =>
    obtain ⟨wd, rfl⟩ : ∃ wd : World, wd = wc := ⟨_, rfl⟩
    obtain ⟨p, q, bf, cf, bg, cg, rfl, rfl, lp, lq, cp, cq, r1, r2, hx⟩ := hcut
    have HR1 := Lib.hid r1; have HR2 := Lib.hid r2
    have f0 : wd.cell? ⟨p, 0, none⟩ = _ := cp 0 (by decide)
    have f1 : wd.cell? ⟨p, 1, none⟩ = _ := cp 1 (by decide)
    have f2 : wd.cell? ⟨p, 2, none⟩ = _ := cp 2 (by decide)
    have f3 : wd.cell? ⟨p, 3, none⟩ = _ := cp 3 (by decide)
    have f4 : wd.cell? ⟨p, 4, none⟩ = _ := cp 4 (by decide)
    have g0 : wd.cell? ⟨q, 0, none⟩ = _ := cq 0 (by decide)
    have g1 : wd.cell? ⟨q, 1, none⟩ = _ := cq 1 (by decide)
    have g2 : wd.cell? ⟨q, 2, none⟩ = _ := cq 2 (by decide)
    have g3 : wd.cell? ⟨q, 3, none⟩ = _ := cq 3 (by decide)
    have g4 : wd.cell? ⟨q, 4, none⟩ = _ := cq 4 (by decide)
    simp only [at5] at f0 f1 f2 f3 f4 g0 g1 g2 g3 g4
    have i0 : wd.heap[w.heap.size]? = _ := (hx.block _ s1).trans hw1
    have i1 : wd.heap[w.heap.size + 1]? = _ := (hx.block _ s2).trans hw2
    obtain ⟨ci, -, li⟩ := Rg.cells_of i0
    obtain ⟨cj, fj, lj⟩ := Rg.cells_of i1
    have x5 := cj 5
    have b0 := ci 0
    have v0 := cj 0
    have v1 := cj 1
    have v2 := cj 2
    have v3 := cj 3
    have v4 := cj 4
    simp only [List.getElem?_toArray, List.getElem?_cons_succ, List.getElem?_cons_zero, List.getElem?_nil] at b0 x5 v0 v1 v2 v3 v4
    have y0 := fj 0
    have y1 := fj 1
    have y2 := fj 2
    have y3 := fj 3
    have y4 := fj 4
    clear cp cq r1 r2 ci cj fj i0 i1 hw1 hw2 j0 j1 j2 j3 j4 j5 j6 j7 j8 j9 e4 IA IB
    have HXX := Lib.hid (hx1.trans hx)
    have hxx : Ext w wd := hx1.trans hx
    clear hx hx1
    have njd : ¬ w.heap.size + 1 = wd.heap.size := by omega
    cases ha : (of.toList == [110, 117, 109])
    · have HT := Lib.hid (show foldTwo op (.mk of (nf1, nf2) mf tf) (.mk og (ng1, ng2) mg tg) = .mk op (0, 0) nilB [.mk of (nf1, nf2) mf tf, .mk og (ng1, ng2) mg tg] from by simp [foldTwo, Ex.op, ha])
      go_wp2
      have far : ∀ b o, ¬ b = w.heap.size + 1 → b < wd.heap.size → ((((((wd.setCell ⟨w.heap.size + 1, 0, none⟩ (.string op)).setCell ⟨w.heap.size + 1, 1, none⟩ (.int .i64 0)).setCell ⟨w.heap.size + 1, 2, none⟩ (.int .i64 0)).setCell ⟨w.heap.size + 1, 3, none⟩ (.string ⟨#[]⟩)).setCell ⟨w.heap.size + 1, 4, none⟩ (.slice (some ⟨wd.heap.size, 0, none⟩) 2 2)).alloc (.cells #[.string of, .int .i64 nf1, .int .i64 nf2, .string mf, .slice bf tf.length cf, .string og, .int .i64 ng1, .int .i64 ng2, .string mg, .slice bg tg.length cg] 29)).cell? ⟨b, o, none⟩ = wd.cell? ⟨b, o, none⟩ := by
        intro b o h1 h2
        have h3 : ¬ w.heap.size + 1 = b := fun e => h1 e.symm
        have h4 : ¬ b = wd.heap.size := by omega
        go_simp
      exact bodyPost_ret (v := .agg #[.string op, .int .i64 0, .int .i64 0, .string nilB, .slice (some ⟨wd.heap.size, 0, none⟩) 2 2]) (by simp [results, Try.results47, go_sem, v0, v1, v2, v3, v4, lj, njd]) rfl ⟨_, rfl, (by with_reducible repeat (first | exact Ext.refl _ | assumption | apply Ext.drewN | apply Ext.drew | apply Ext.alloc | (refine Ext.setCell ?_ (by simp <;> omega) _) | (refine Ext.trans ?_ (by assumption)))), by rw [HT.out]; exact fold_done h2a h2b (HR1.out) (HR2.out) x5 far (hS _ (by omega)) (block_new (by simp))⟩
    · cases hb : (og.toList == [110, 117, 109])
      · have HT := Lib.hid (show foldTwo op (.mk of (nf1, nf2) mf tf) (.mk og (ng1, ng2) mg tg) = .mk op (0, 0) nilB [.mk of (nf1, nf2) mf tf, .mk og (ng1, ng2) mg tg] from by simp [foldTwo, Ex.op, ha, hb])
        go_wp2
        have far : ∀ b o, ¬ b = w.heap.size + 1 → b < wd.heap.size → ((((((wd.setCell ⟨w.heap.size + 1, 0, none⟩ (.string op)).setCell ⟨w.heap.size + 1, 1, none⟩ (.int .i64 0)).setCell ⟨w.heap.size + 1, 2, none⟩ (.int .i64 0)).setCell ⟨w.heap.size + 1, 3, none⟩ (.string ⟨#[]⟩)).setCell ⟨w.heap.size + 1, 4, none⟩ (.slice (some ⟨wd.heap.size, 0, none⟩) 2 2)).alloc (.cells #[.string of, .int .i64 nf1, .int .i64 nf2, .string mf, .slice bf tf.length cf, .string og, .int .i64 ng1, .int .i64 ng2, .string mg, .slice bg tg.length cg] 29)).cell? ⟨b, o, none⟩ = wd.cell? ⟨b, o, none⟩ := by
          intro b o h1 h2
          have h3 : ¬ w.heap.size + 1 = b := fun e => h1 e.symm
          have h4 : ¬ b = wd.heap.size := by omega
          go_simp
        exact bodyPost_ret (v := .agg #[.string op, .int .i64 0, .int .i64 0, .string nilB, .slice (some ⟨wd.heap.size, 0, none⟩) 2 2]) (by simp [results, Try.results47, go_sem, v0, v1, v2, v3, v4, lj, njd]) rfl ⟨_, rfl, (by with_reducible repeat (first | exact Ext.refl _ | assumption | apply Ext.drewN | apply Ext.drew | apply Ext.alloc | (refine Ext.setCell ?_ (by simp <;> omega) _) | (refine Ext.trans ?_ (by assumption)))), by rw [HT.out]; exact fold_done h2a h2b (HR1.out) (HR2.out) x5 far (hS _ (by omega)) (block_new (by simp))⟩
      · have hn1 : I2 (nf1, nf2) := by have h := HR1.out; unfold Rd at h; obtain ⟨_, _, _, h, -⟩ := h; exact h
        have hn2 : I2 (ng1, ng2) := by have h := HR2.out; unfold Rd at h; obtain ⟨_, _, _, h, -⟩ := h; exact h
        have HA := Lib.hid (fun w => apply_any div64_said (opIx op).toNat (by have := opIx_bd op; omega) (nf1, nf2) (ng1, ng2) hn1 hn2 w)
        have hI := applyI_I2 (opIx op).toNat (nf1, nf2) (ng1, ng2) hn1 hn2
        have hT : foldTwo op (.mk of (nf1, nf2) mf tf) (.mk og (ng1, ng2) mg tg) = (if (applyI (opIx op).toNat (nf1, nf2) (ng1, ng2)).2 = 0 then numE (applyI (opIx op).toNat (nf1, nf2) (ng1, ng2)).1 else .mk op (0, 0) nilB [.mk of (nf1, nf2) mf tf, .mk og (ng1, ng2) mg tg]) := by
          unfold foldTwo
          rw [if_pos (by simp [Ex.op, ha, hb])]
          rfl
        generalize applyI (opIx op).toNat (nf1, nf2) (ng1, ng2) = r at *
        obtain ⟨⟨u1, u2⟩, rf⟩ := r
        have HTT := Lib.hid hT
        clear hT hn1 hn2
        have z0 : w.heap.size < wd.heap.size + 1 := by omega
        have z00 : p < wd.heap.size + 1 := by omega
        have z01 : q < wd.heap.size + 1 := by omega
        by_cases hrf : rf = 0
        · subst hrf
          have HT := Lib.hid (HTT.out.trans (if_pos rfl))
          go_wp2_with (first
            | (go_at_call 73; (with_reducible refine (HF.out _).mono ?_); rintro e w1 ⟨rfl, hb1⟩; obtain ⟨hc1, hf1⟩ := hb1.cells; have hz1 := hb1.size; have z1 : w.heap.size < w1.heap.size := (by omega); have z2 : p < w1.heap.size := (by omega); have z3 : q < w1.heap.size := (by omega); have z4 : w.heap.size + 1 < w1.heap.size := (by omega))
            | (go_at_call 74; (with_reducible refine (HA.out _).mono ?_); rintro e w2 ⟨rfl, hb2⟩; obtain ⟨hc2, hf2⟩ := hb2.cells; have hz2 := hb2.size; simp at hz2; have z5 : w.heap.size < w2.heap.size := (by omega); have z6 : p < w2.heap.size := (by omega); have z7 : q < w2.heap.size := (by omega); have z8 : w.heap.size + 1 < w2.heap.size := (by omega); have z9 : w.heap.size + 1 < w1.heap.size + 1 := (by omega)))
          have q0 : w2.cell? ⟨w.heap.size + 1, 0, none⟩ = some (.string ⟨#[]⟩) := by go_simp
          have q1 : w2.cell? ⟨w.heap.size + 1, 1, none⟩ = some (.int .i64 0) := by go_simp
          have q2 : w2.cell? ⟨w.heap.size + 1, 2, none⟩ = some (.int .i64 0) := by go_simp
          have q3 : w2.cell? ⟨w.heap.size + 1, 3, none⟩ = some (.string ⟨#[]⟩) := by go_simp
          have q4 : w2.cell? ⟨w.heap.size + 1, 4, none⟩ = some (.slice none 0 0) := by go_simp
          have njd2 : ¬ w.heap.size + 1 = w2.heap.size := by omega
          exact bodyPost_ret (v := leafV numB (u1, u2) nilB) (by simp [results, Try.results47, go_sem, q0, q1, q2, q3, q4, njd2, z8]) rfl ⟨_, rfl, (by with_reducible repeat (first | exact Ext.refl _ | assumption | apply Ext.drewN | apply Ext.drew | apply Ext.alloc | (refine Ext.setCell ?_ (by simp <;> omega) _) | (refine Ext.trans ?_ (by assumption)))), by rw [HT.out]; exact Rd.leaf hI⟩
        · have HT := Lib.hid (HTT.out.trans (if_neg hrf))
          go_wp2_with (first
            | (go_at_call 73; (with_reducible refine (HF.out _).mono ?_); rintro e w1 ⟨rfl, hb1⟩; obtain ⟨hc1, hf1⟩ := hb1.cells; have hz1 := hb1.size; have z1 : w.heap.size < w1.heap.size := (by omega); have z2 : p < w1.heap.size := (by omega); have z3 : q < w1.heap.size := (by omega); have z4 : w.heap.size + 1 < w1.heap.size := (by omega))
            | (go_at_call 74; (with_reducible refine (HA.out _).mono ?_); rintro e w2 ⟨rfl, hb2⟩; obtain ⟨hc2, hf2⟩ := hb2.cells; have hz2 := hb2.size; simp at hz2; have z5 : w.heap.size < w2.heap.size := (by omega); have z6 : p < w2.heap.size := (by omega); have z7 : q < w2.heap.size := (by omega); have z8 : w.heap.size + 1 < w2.heap.size := (by omega); have z9 : w.heap.size + 1 < w1.heap.size + 1 := (by omega)))
          have q0 : w2.cell? ⟨w.heap.size + 1, 0, none⟩ = some (.string ⟨#[]⟩) := by go_simp
          have q1 : w2.cell? ⟨w.heap.size + 1, 1, none⟩ = some (.int .i64 0) := by go_simp
          have q2 : w2.cell? ⟨w.heap.size + 1, 2, none⟩ = some (.int .i64 0) := by go_simp
          have q3 : w2.cell? ⟨w.heap.size + 1, 3, none⟩ = some (.string ⟨#[]⟩) := by go_simp
          have q4 : w2.cell? ⟨w.heap.size + 1, 4, none⟩ = some (.slice none 0 0) := by go_simp
          have njd2 : ¬ w.heap.size + 1 = w2.heap.size := by omega
          have njd3 : ¬ w.heap.size + 1 = w2.heap.size + 1 := by omega
          have z10 : w.heap.size + 1 < w2.heap.size + 1 := by omega
          have h12 : Ext wd w2 := (by with_reducible repeat (first | exact Ext.refl _ | assumption | apply Ext.drewN | apply Ext.drew | apply Ext.alloc | (refine Ext.setCell ?_ (by simp <;> omega) _) | (refine Ext.trans ?_ (by assumption))))
          have far : ∀ b o, ¬ b = w.heap.size + 1 → b < w2.heap.size → (((((((w2.setCell ⟨w.heap.size + 1, 0, none⟩ (.string op)).setCell ⟨w.heap.size + 1, 1, none⟩ (.int .i64 0)).setCell ⟨w.heap.size + 1, 2, none⟩ (.int .i64 0)).setCell ⟨w.heap.size + 1, 3, none⟩ (.string ⟨#[]⟩)).setCell ⟨w.heap.size + 1, 4, none⟩ (.slice (some ⟨w2.heap.size + 1, 0, none⟩) 2 2)).alloc (.cells #[.int .i64 u1, .int .i64 u2] 26)).alloc (.cells #[.string of, .int .i64 nf1, .int .i64 nf2, .string mf, .slice bf tf.length cf, .string og, .int .i64 ng1, .int .i64 ng2, .string mg, .slice bg tg.length cg] 29)).cell? ⟨b, o, none⟩ = w2.cell? ⟨b, o, none⟩ := by
            intro b o h1 h2
            have h3 : ¬ w.heap.size + 1 = b := fun e => h1 e.symm
            have h4 : ¬ b = w2.heap.size := by omega
            have h5 : ¬ b = w2.heap.size + 1 := by omega
            have h6 : b < w2.heap.size + 1 := by omega
            go_simp
          exact bodyPost_ret (v := .agg #[.string op, .int .i64 0, .int .i64 0, .string nilB, .slice (some ⟨w2.heap.size + 1, 0, none⟩) 2 2]) (by simp [results, Try.results47, go_sem, q0, q1, q2, q3, q4, njd2, njd3, z8, z10]) rfl ⟨_, rfl, (by with_reducible repeat (first | exact Ext.refl _ | assumption | apply Ext.drewN | apply Ext.drew | apply Ext.alloc | (refine Ext.setCell ?_ (by simp <;> omega) _) | (refine Ext.trans ?_ (by assumption)))), by rw [HT.out]; exact fold_done h2a h2b (HR1.out.ext h12) (HR2.out.ext h12) ((h12.cells.1 _ _ lj).trans x5) far (hS _ (by omega)) (block_new (by simp))⟩
end Go.Proofs.Ytgkdeknfmmgbdaa

namespace Go.Proofs.Ytgkdeknfmmgbdaa
set_option linter.unusedVariables false
set_option linter.unusedSimpArgs false
open Go.RowKit

theorem foldTwo_two (op : ByteArray) (a b : Ex) (ha : twoB a = true) (hb : twoB b = true) : twoB (foldTwo op a b) = true := by
  unfold foldTwo
  have h : twoB (.mk op (0, 0) nilB [a, b]) = true := by simp [twoB, twoL, ha, hb]
  split
  · split
    · rfl
    · exact h
  · exact h

theorem fold_two : ∀ (d : Nat) (t : Ex) (_ : t.depth ≤ d), formedB t = true → twoB (foldE t) = true
  | 0, .mk op n nm ts, hd, _ => by rw [Ex.depth] at hd; omega
  | d + 1, .mk op n nm ts, hd, hf => by
    rw [formedB] at hf
    cases h0 : (op.toList == [110, 117, 109])
    · rw [h0] at hf
      cases h : (op.toList == [110, 97, 109, 101])
      · rw [h] at hf
        simp only [Bool.false_eq_true, if_false] at hf
        simp only [Bool.and_eq_true, Bool.not_eq_true', beq_eq_false_iff_ne, ne_eq, beq_iff_eq] at hf
        obtain ⟨hi, h2, -, -, hl⟩ := hf
        match ts, h2, hl, hd with
        | [ta, tb], _, hl, hd =>
          rw [Ex.depth, Ex.depthL, Ex.depthL, Ex.depthL] at hd
          simp only [formedL, Bool.and_eq_true, Bool.and_true] at hl
          rw [foldE, foldL, foldL, foldL]
          exact foldTwo_two op _ _ (fold_two d ta (by omega) hl.1) (fold_two d tb (by omega) hl.2)
      · rw [h] at hf
        simp only [Bool.false_eq_true, if_false, if_true, Bool.and_eq_true, beq_iff_eq] at hf
        match ts, hf.1 with
        | [], _ => rw [foldE, foldL]; rfl
    · rw [h0] at hf
      simp only [if_true, Bool.and_eq_true, beq_iff_eq] at hf
      match ts, hf.1 with
      | [], _ => rw [foldE, foldL]; rfl

theorem folded_any (T S : Nat → Prop) : ∀ (d : Nat) (t : Ex) (_ : t.depth ≤ d) (_ : formedB t = true) (w : World) (v : Value) (_ : Rd T w t v) (_ : ∀ b, w.heap.size ≤ b → S b),
    Calls Try.prog 47 #[v] w fun e w' => ∃ v', e = .returned v' ∧ Ext w w' ∧ Rd S w' (foldE t) v'
  | 0, .mk op n nm ts, hd, _, _, _, _, _ => by rw [Ex.depth] at hd; omega
  | d + 1, .mk op n nm ts, hd, hf, w, v, hv, hS => by
    have leafc : ts = [] → Calls Try.prog 47 #[v] w fun e w' => ∃ v', e = .returned v' ∧ Ext w w' ∧ Rd S w' (foldE (.mk op n nm ts)) v' := by
      rintro rfl
      rw [foldE, foldL]
      unfold Rd at hv
      obtain ⟨base, cap, rfl, hn, -, -⟩ := hv
      refine (fold_leaf op n nm base cap w).mono ?_
      rintro e w' ⟨rfl, hx⟩
      refine ⟨_, rfl, hx, ?_⟩
      unfold Rd
      exact ⟨base, cap, rfl, hn, by simp, .inl rfl⟩
    rw [formedB] at hf
    cases h0 : (op.toList == [110, 117, 109])
    · rw [h0] at hf
      cases h : (op.toList == [110, 97, 109, 101])
      · rw [h] at hf
        simp only [Bool.false_eq_true, if_false] at hf
        simp only [Bool.and_eq_true, Bool.not_eq_true', beq_eq_false_iff_ne, ne_eq, beq_iff_eq] at hf
        obtain ⟨hi, h2, -, -, hl⟩ := hf
        match ts, h2, hl, hd, hv with
        | [ta, tb], _, hl, hd, hv =>
          rw [Ex.depth, Ex.depthL, Ex.depthL, Ex.depthL] at hd
          simp only [formedL, Bool.and_eq_true, Bool.and_true] at hl
          rw [foldE, foldL, foldL, foldL]
          exact fold_op T S op n nm ta tb hi w v hv hS _ _ (fold_two d ta (by omega) hl.1) (fold_two d tb (by omega) hl.2)
            (fun w' v hv hw => folded_any T S d ta (by omega) hl.1 w' v hv (fun b hb => hS b (by omega)))
            (fun w' v hv hw => folded_any T S d tb (by omega) hl.2 w' v hv (fun b hb => hS b (by omega)))
      · rw [h] at hf
        simp only [Bool.false_eq_true, if_false, if_true, Bool.and_eq_true, beq_iff_eq] at hf
        exact leafc (List.eq_nil_of_length_eq_zero hf.1)
    · rw [h0] at hf
      simp only [if_true, Bool.and_eq_true, beq_iff_eq] at hf
      exact leafc (List.eq_nil_of_length_eq_zero hf.1)

theorem wrong_zero {t : Ex} (h : wrongI t = 0) : t.parts ≤ 60 ∧ t.depth ≤ 12 ∧ formedB t = true := by
  unfold wrongI at h
  split at h
  · rename_i h1
    split at h
    · rename_i h2; exact ⟨h1.1, h1.2, h2⟩
    · cases h
  · cases h

def simpE (t : Ex) : Ex := if wrongI t = 0 then foldE t else t

theorem Rd.form {S : Nat → Prop} {w : World} {t : Ex} {v : Value} (h : Rd S w t v) : ∃ op n1 n2 nm base len cap, v = .agg #[.string op, .int .i64 n1, .int .i64 n2, .string nm, .slice base len cap] := by
  obtain ⟨op, n, nm, ts⟩ := t
  unfold Rd at h
  obtain ⟨base, cap, hv, -⟩ := h
  exact ⟨_, _, _, _, _, _, _, hv⟩
/-- A tree is kept where only a block of fewer than six cells has turned. -/
theorem Rd.past {S : Nat → Prop} {wd wz : World} {r : Nat} {t : Ex} {v : Value} (h2 : twoB t = true) (h : Rd S wd t v) (h5 : wd.cell? ⟨r, 5, none⟩ = none)
    (far : ∀ b o, ¬ b = r → b < wd.heap.size → wz.cell? ⟨b, o, none⟩ = wd.cell? ⟨b, o, none⟩) : Rd S wz t v :=
  Rd.frame (S := fun b => S b ∧ ∃ u, wd.cell? ⟨b, 5, none⟩ = some u) (fun b o ⟨_, u, hu⟩ hb => far b o (by rintro rfl; rw [h5] at hu; cases hu) hb) (fun _ h => h.1) _ _ (Rd.big _ _ h2 h)

set_option maxRecDepth 100000 in
set_option maxHeartbeats 1000000 in
theorem simplify_any (T S : Nat → Prop) (t : Ex) (w : World) (v : Value) (hv : Rd T w t v) (hT : ¬ wrongI t = 0 → Rd S w t v) (hS : ∀ b, w.heap.size ≤ b → S b) :
    Calls Try.prog 19 #[v] w fun e w' => ∃ v', e = .returned v' ∧ Ext w w' ∧ Rd S w' (simpE t) v' := by
  have HW := Lib.hid (fun w' (hw : Ext w w') => wrong_any T t w' v (Rd.ext hw hv))
  have hsh : ∃ op n1 n2 nm base len cap, v = .agg #[.string op, .int .i64 n1, .int .i64 n2, .string nm, .slice base len cap] := by
    obtain ⟨op, n, nm, ts⟩ := t
    unfold Rd at hv
    obtain ⟨base, cap, hv, -⟩ := hv
    exact ⟨_, _, _, _, _, _, _, hv⟩
  obtain ⟨op, n1, n2, nm, base, len, cap, rfl⟩ := hsh
  by_cases h : wrongI t = 0
  · have HE := Lib.hid (show simpE t = foldE t from if_pos h)
    have hd := wrong_zero h
    have HF := Lib.hid (fun w' (hw : Ext w w') => folded_any T S 12 t hd.2.1 hd.2.2 w' _ (Rd.ext hw hv) (fun b hb => hS b (Nat.le_trans hw.size hb)))
    have h2 := Lib.hid (fold_two 12 t hd.2.1 hd.2.2)
    rw [h] at HW
    clear h hd hv hT
    go_enter Try.func19, Try.ntmps19
    go_wp2_with (first
      | (go_at_call 43; (with_reducible refine (HW.out _ (by with_reducible repeat (first | exact Ext.refl _ | assumption | apply Ext.drewN | apply Ext.drew | apply Ext.alloc | (refine Ext.setCell ?_ (by simp <;> omega) _) | (refine Ext.trans ?_ (by assumption))))).mono ?_); rintro e w1 ⟨rfl, hb⟩; obtain ⟨hc, hf⟩ := hb.cells; have hz := hb.size; simp at hz; have z1 : w.heap.size < w1.heap.size := (by omega); have z2 : w.heap.size + 1 < w1.heap.size := (by omega))
      | (go_at_call 47; (with_reducible refine (HF.out _ (by with_reducible repeat (first | exact Ext.refl _ | assumption | apply Ext.drewN | apply Ext.drew | apply Ext.alloc | (refine Ext.setCell ?_ (by simp <;> omega) _) | (refine Ext.trans ?_ (by assumption))))).mono ?_); rintro e w2 ⟨v2, rfl, hb2, hr⟩; obtain ⟨hc2, hf2⟩ := hb2.cells; obtain ⟨q0, q1, q2, q3, q4, q5, q6, rfl⟩ := hr.form; have HR := Lib.hid hr; clear hr))
    have n1 : ¬ w.heap.size + 1 = w.heap.size := by omega
    have v0 : w2.cell? ⟨w.heap.size + 1, 0, none⟩ = some (.string ⟨#[]⟩) := by go_simp
    have v1 : w2.cell? ⟨w.heap.size + 1, 1, none⟩ = some (.int .i64 0) := by go_simp
    have v2 : w2.cell? ⟨w.heap.size + 1, 2, none⟩ = some (.int .i64 0) := by go_simp
    have v3 : w2.cell? ⟨w.heap.size + 1, 3, none⟩ = some (.string ⟨#[]⟩) := by go_simp
    have v4 : w2.cell? ⟨w.heap.size + 1, 4, none⟩ = some (.slice none 0 0) := by go_simp
    have v5 : w2.cell? ⟨w.heap.size + 1, 5, none⟩ = none := by go_simp
    have far : ∀ b o, ¬ b = w.heap.size + 1 → b < w2.heap.size → (((((w2.setCell ⟨w.heap.size + 1, 0, none⟩ (.string q0)).setCell ⟨w.heap.size + 1, 1, none⟩ (.int .i64 q1)).setCell ⟨w.heap.size + 1, 2, none⟩ (.int .i64 q2)).setCell ⟨w.heap.size + 1, 3, none⟩ (.string q3)).setCell ⟨w.heap.size + 1, 4, none⟩ (.slice q4 q5 q6)).cell? ⟨b, o, none⟩ = w2.cell? ⟨b, o, none⟩ := by
      intro b o h1 h2
      have h3 : ¬ w.heap.size + 1 = b := fun e => h1 e.symm
      go_simp
    exact bodyPost_ret (v := .agg #[.string q0, .int .i64 q1, .int .i64 q2, .string q3, .slice q4 q5 q6]) (by simp [results, Try.results19, go_sem, v0, v1, v2, v3, v4]) rfl ⟨_, rfl, (by with_reducible repeat (first | exact Ext.refl _ | assumption | apply Ext.drewN | apply Ext.drew | apply Ext.alloc | (refine Ext.setCell ?_ (by simp <;> omega) _) | (refine Ext.trans ?_ (by assumption)))), by rw [HE.out]; exact Rd.past h2.out HR.out v5 far⟩
  · have HE := Lib.hid (show simpE t = t from if_neg h)
    have hr := Lib.hid (hT h)
    generalize wrongI t = k at *
    clear hv hT
    go_enter Try.func19, Try.ntmps19
    go_wp2_with (go_at_call 43; (with_reducible refine (HW.out _ (by with_reducible repeat (first | exact Ext.refl _ | assumption | apply Ext.drewN | apply Ext.drew | apply Ext.alloc | (refine Ext.setCell ?_ (by simp <;> omega) _) | (refine Ext.trans ?_ (by assumption))))).mono ?_); rintro e w1 ⟨rfl, hb⟩; obtain ⟨hc, hf⟩ := hb.cells; have hz := hb.size; simp at hz; have z1 : w.heap.size < w1.heap.size := (by omega); have z2 : w.heap.size + 1 < w1.heap.size := (by omega))
    have v0 : w1.cell? ⟨w.heap.size + 1, 0, none⟩ = some (.string ⟨#[]⟩) := by go_simp
    have v1 : w1.cell? ⟨w.heap.size + 1, 1, none⟩ = some (.int .i64 0) := by go_simp
    have v2 : w1.cell? ⟨w.heap.size + 1, 2, none⟩ = some (.int .i64 0) := by go_simp
    have v3 : w1.cell? ⟨w.heap.size + 1, 3, none⟩ = some (.string ⟨#[]⟩) := by go_simp
    have v4 : w1.cell? ⟨w.heap.size + 1, 4, none⟩ = some (.slice none 0 0) := by go_simp
    have hxf : Ext w (((((w1.setCell ⟨w.heap.size + 1, 0, none⟩ (.string op)).setCell ⟨w.heap.size + 1, 1, none⟩ (.int .i64 n1)).setCell ⟨w.heap.size + 1, 2, none⟩ (.int .i64 n2)).setCell ⟨w.heap.size + 1, 3, none⟩ (.string nm)).setCell ⟨w.heap.size + 1, 4, none⟩ (.slice base len cap)) := (by with_reducible repeat (first | exact Ext.refl _ | assumption | apply Ext.drewN | apply Ext.drew | apply Ext.alloc | (refine Ext.setCell ?_ (by simp <;> omega) _) | (refine Ext.trans ?_ (by assumption))))
    exact bodyPost_ret (v := .agg #[.string op, .int .i64 n1, .int .i64 n2, .string nm, .slice base len cap]) (by simp [results, Try.results19, go_sem, v0, v1, v2, v3, v4]) rfl ⟨_, rfl, hxf, by rw [HE.out]; exact hr.out.ext hxf⟩
end Go.Proofs.Ytgkdeknfmmgbdaa

namespace Go.Proofs.Ytgkdeknfmmgbdaa
set_option linter.unusedVariables false
set_option linter.unusedSimpArgs false
open Go.RowKit

theorem neq26 (a b : Int) (w : World) : (binOp .neq 26 (.agg #[.int .i64 a, .int .i64 b]) (.agg #[.int .i64 a, .int .i64 b])).run Try.prog w = .ok (.bool false) w := by
  simp [go_sem]

theorem Ex.depth_get : ∀ (ts : List Ex) (k : Nat) (h : k < ts.length), ts[k].depth ≤ Ex.depthL ts
  | t :: ts, 0, _ => by rw [Ex.depthL]; exact Nat.le_max_left _ _
  | t :: ts, k + 1, h => by
    rw [Ex.depthL]
    exact Nat.le_trans (Ex.depth_get ts k (by simpa using h)) (Nat.le_max_right _ _)

set_option maxRecDepth 100000 in
set_option maxHeartbeats 2000000 in
theorem same_any (S T : Nat → Prop) : ∀ (d : Nat) (t : Ex) (_ : t.depth ≤ d) (w : World) (u v : Value) (_ : Rd S w t u) (_ : Rd T w t v),
    Calls Try.prog 20 #[u, v] w fun e w' => e = .returned (.bool true) ∧ Ext w w'
  | 0, .mk op n nm ts, hd, _, _, _, _, _ => by rw [Ex.depth] at hd; omega
  | d + 1, .mk op n nm ts, hd, w, u, v, hu, hv => by
    obtain ⟨n1, n2⟩ := n
    unfold Rd at hu hv
    obtain ⟨base, cap, rfl, -, hlen, hr⟩ := hu
    obtain ⟨base', cap', rfl, -, -, hr'⟩ := hv
    have HN := fun w => neq26 n1 n2 w
    have IH := Lib.hid (fun t ht w u v hu hv => same_any S T d t ht w u v hu hv)
    rw [Ex.depth] at hd
    have HR := Lib.hid hr
    have HR' := Lib.hid hr'
    clear hr hr'
    go_enter Try.func20, Try.ntmps20
    go_wp2_with (fail)
    have hxW : Ext w ((w.alloc (.cells #[.string op, .int .i64 n1, .int .i64 n2, .string nm, .slice base ts.length cap] 29)).alloc (.cells #[.string op, .int .i64 n1, .int .i64 n2, .string nm, .slice base' ts.length cap'] 29)) := (by with_reducible repeat (first | exact Ext.refl _ | assumption | apply Ext.drewN | apply Ext.drew | apply Ext.alloc | (refine Ext.setCell ?_ (by simp <;> omega) _) | (refine Ext.trans ?_ (by assumption))))
    have hw1 : ((w.alloc (.cells #[.string op, .int .i64 n1, .int .i64 n2, .string nm, .slice base ts.length cap] 29)).alloc (.cells #[.string op, .int .i64 n1, .int .i64 n2, .string nm, .slice base' ts.length cap'] 29)).heap[w.heap.size]? = some (.cells #[.string op, .int .i64 n1, .int .i64 n2, .string nm, .slice base ts.length cap] 29) := by
      rw [Below.heap_alloc _ _ _ (by simp)]; exact block_new rfl
    have hw2 : ((w.alloc (.cells #[.string op, .int .i64 n1, .int .i64 n2, .string nm, .slice base ts.length cap] 29)).alloc (.cells #[.string op, .int .i64 n1, .int .i64 n2, .string nm, .slice base' ts.length cap'] 29)).heap[w.heap.size + 1]? = some (.cells #[.string op, .int .i64 n1, .int .i64 n2, .string nm, .slice base' ts.length cap'] 29) := block_new (by simp)
    generalize ((w.alloc (.cells #[.string op, .int .i64 n1, .int .i64 n2, .string nm, .slice base ts.length cap] 29)).alloc (.cells #[.string op, .int .i64 n1, .int .i64 n2, .string nm, .slice base' ts.length cap'] 29)) = W at *
    have s1 : w.heap.size < W.heap.size := Rg.lt_of_heap hw1
    have s2 : w.heap.size + 1 < W.heap.size := Rg.lt_of_heap hw2
    have e4 : W.cell? ⟨w.heap.size, 4, none⟩ = some (.slice base ts.length cap) := by rw [cell_of_row W _ _ _ _ _ hw1]; rfl
    have e5 : W.cell? ⟨w.heap.size + 1, 4, none⟩ = some (.slice base' ts.length cap') := by rw [cell_of_row W _ _ _ _ _ hw2]; rfl
    clear hw1 hw2
    go_loopw [4, 5] (fun z i wr => ∃ k : Nat, k ≤ ts.length ∧ z = .bool false ∧ i = .int .i64 k ∧ Ext W wr) (fun _ i _ => ts.length - (intOf i).toNat)
    case atStart => exact ⟨0, Nat.zero_le _, rfl, rfl, Ext.refl _⟩
    case round =>
      obtain ⟨k, hk, rfl, rfl, hx⟩ := hrel
      have x4 := (hx.cells.1 _ _ s1).trans e4
      have x5 := (hx.cells.1 _ _ s2).trans e5
      have t1 : w.heap.size < wr.heap.size := Nat.lt_of_lt_of_le s1 hx.size
      have t2 : w.heap.size + 1 < wr.heap.size := Nat.lt_of_lt_of_le s2 hx.size
      rcases Nat.lt_or_ge k ts.length with hlt | hge
      · rcases HR.out with h | ⟨b, rfl, -, hl⟩
        · subst h; exact absurd hlt (Nat.not_lt_zero _)
        rcases HR'.out with h | ⟨b', rfl, -, hl'⟩
        · subst h; exact absurd hlt (Nat.not_lt_zero _)
        obtain ⟨c, hc, hra⟩ := hl.get k hlt
        obtain ⟨c', hc', hra'⟩ := hl'.get k hlt
        obtain ⟨oa, a1, a2, na, ba, la, ca, c0, c1, c2, c3, c4, ea⟩ := hra.shape
        obtain ⟨ob, b1, b2, nb, bb, lb, cb, d0, d1, d2, d3, d4, eb⟩ := hra'.shape
        rw [Nat.zero_add] at hc hc'
        have hbl : b < w.heap.size := World.block_lt_of_cell? w _ (hc 0 (by decide))
        have hbl' : b' < w.heap.size := World.block_lt_of_cell? w _ (hc' 0 (by decide))
        have hwr : Ext w wr := hxW.trans hx
        have s5 : b < wr.heap.size := Nat.lt_of_lt_of_le hbl hwr.size
        have s6 : b' < wr.heap.size := Nat.lt_of_lt_of_le hbl' hwr.size
        have j0 := (hwr.cells.1 b _ hbl).trans ((hc 0 (by decide)).trans (congrArg some c0))
        have j1 := (hwr.cells.1 b _ hbl).trans ((hc 1 (by decide)).trans (congrArg some c1))
        have j2 := (hwr.cells.1 b _ hbl).trans ((hc 2 (by decide)).trans (congrArg some c2))
        have j3 := (hwr.cells.1 b _ hbl).trans ((hc 3 (by decide)).trans (congrArg some c3))
        have j4 := (hwr.cells.1 b _ hbl).trans ((hc 4 (by decide)).trans (congrArg some c4))
        have l0 := (hwr.cells.1 b' _ hbl').trans ((hc' 0 (by decide)).trans (congrArg some d0))
        have l1 := (hwr.cells.1 b' _ hbl').trans ((hc' 1 (by decide)).trans (congrArg some d1))
        have l2 := (hwr.cells.1 b' _ hbl').trans ((hc' 2 (by decide)).trans (congrArg some d2))
        have l3 := (hwr.cells.1 b' _ hbl').trans ((hc' 3 (by decide)).trans (congrArg some d3))
        have l4 := (hwr.cells.1 b' _ hbl').trans ((hc' 4 (by decide)).trans (congrArg some d4))
        simp only [Nat.add_zero] at j0 l0
        have hdk : ts[k].depth ≤ d := by have := Ex.depth_get ts k hlt; omega
        have HI := Lib.hid (fun w' hw => IH.out ts[k] hdk w' _ _ (Rd.ext hw (ea ▸ hra)) (Rd.ext hw (eb ▸ hra')))
        clear hc hc' hra hra' hl hl' c0 c1 c2 c3 c4 d0 d1 d2 d3 d4 ea eb hdk
        go_wp2_with (fail)
        refine Rr.wp_region [(0, .y), (1, .y), (2, .y), (3, .y), (4, .y), (5, .y), (6, .y), (7, .y), (8, .y), (9, .y), (10, .y)] (fun _ => (.cells #[] 29, Rg.ptr)) (by kernel_rfl) (by kernel_rfl) ?_
        (refine Rr.wr_y (by simp only [List.getElem?_toArray, List.getElem?_cons_succ, List.getElem?_cons_zero]; rfl) (by rfl) ?_
         apply Exists.intro
         refine ⟨fun wz hw _ => ?_, ?_⟩
         · have hcz := hw.cells.1
           go_simp
           (with_reducible exact Rg.up_value)
         simp only [Act.put, List.setIfInBounds_toArray, List.set_cons_zero, List.set_cons_succ])
        (refine Rr.wr_y (by simp only [List.getElem?_toArray, List.getElem?_cons_succ, List.getElem?_cons_zero]; rfl) (by rfl) ?_
         apply Exists.intro
         refine ⟨fun wz hw _ => ?_, ?_⟩
         · have hcz := hw.cells.1
           go_simp
           (with_reducible exact Rg.up_value)
         simp only [Act.put, List.setIfInBounds_toArray, List.set_cons_zero, List.set_cons_succ])
        (refine Rr.wr_y (by simp only [List.getElem?_toArray, List.getElem?_cons_succ, List.getElem?_cons_zero]; rfl) (by rfl) ?_
         apply Exists.intro
         refine ⟨fun wz hw _ => ?_, ?_⟩
         · have hcz := hw.cells.1
           go_simp
           (with_reducible exact Rg.up_value)
         simp only [Act.put, List.setIfInBounds_toArray, List.set_cons_zero, List.set_cons_succ])
        (refine Rr.wr_y (by simp only [List.getElem?_toArray, List.getElem?_cons_succ, List.getElem?_cons_zero]; rfl) (by rfl) ?_
         apply Exists.intro
         refine ⟨fun wz hw _ => ?_, ?_⟩
         · have hcz := hw.cells.1
           go_simp
           (with_reducible exact Rg.up_value)
         simp only [Act.put, List.setIfInBounds_toArray, List.set_cons_zero, List.set_cons_succ])
        (refine Rr.wr_y (by simp only [List.getElem?_toArray, List.getElem?_cons_succ, List.getElem?_cons_zero]; rfl) (by rfl) ?_
         apply Exists.intro
         refine ⟨fun wz hw _ => ?_, ?_⟩
         · have hcz := hw.cells.1
           exact up_load29 (by rfl) ((hcz _ _ s5).trans j0) ((hcz _ _ s5).trans j1) ((hcz _ _ s5).trans j2) ((hcz _ _ s5).trans j3) ((hcz _ _ s5).trans j4)
         simp only [Act.put, List.setIfInBounds_toArray, List.set_cons_zero, List.set_cons_succ])
        (refine Rr.wr_y (by simp only [List.getElem?_toArray, List.getElem?_cons_succ, List.getElem?_cons_zero]; rfl) (by rfl) ?_
         apply Exists.intro
         refine ⟨fun wz hw _ => ?_, ?_⟩
         · have hcz := hw.cells.1
           go_simp
           (with_reducible exact Rg.up_value)
         simp only [Act.put, List.setIfInBounds_toArray, List.set_cons_zero, List.set_cons_succ])
        (refine Rr.wr_y (by simp only [List.getElem?_toArray, List.getElem?_cons_succ, List.getElem?_cons_zero]; rfl) (by rfl) ?_
         apply Exists.intro
         refine ⟨fun wz hw _ => ?_, ?_⟩
         · have hcz := hw.cells.1
           go_simp
           (with_reducible exact Rg.up_value)
         simp only [Act.put, List.setIfInBounds_toArray, List.set_cons_zero, List.set_cons_succ])
        (refine Rr.wr_y (by simp only [List.getElem?_toArray, List.getElem?_cons_succ, List.getElem?_cons_zero]; rfl) (by rfl) ?_
         apply Exists.intro
         refine ⟨fun wz hw _ => ?_, ?_⟩
         · have hcz := hw.cells.1
           go_simp
           (with_reducible exact Rg.up_value)
         simp only [Act.put, List.setIfInBounds_toArray, List.set_cons_zero, List.set_cons_succ])
        (refine Rr.wr_y (by simp only [List.getElem?_toArray, List.getElem?_cons_succ, List.getElem?_cons_zero]; rfl) (by rfl) ?_
         apply Exists.intro
         refine ⟨fun wz hw _ => ?_, ?_⟩
         · have hcz := hw.cells.1
           go_simp
           (with_reducible exact Rg.up_value)
         simp only [Act.put, List.setIfInBounds_toArray, List.set_cons_zero, List.set_cons_succ])
        (refine Rr.wr_y (by simp only [List.getElem?_toArray, List.getElem?_cons_succ, List.getElem?_cons_zero]; rfl) (by rfl) ?_
         apply Exists.intro
         refine ⟨fun wz hw _ => ?_, ?_⟩
         · have hcz := hw.cells.1
           exact up_load29 (by rfl) ((hcz _ _ s6).trans l0) ((hcz _ _ s6).trans l1) ((hcz _ _ s6).trans l2) ((hcz _ _ s6).trans l3) ((hcz _ _ s6).trans l4)
         simp only [Act.put, List.setIfInBounds_toArray, List.set_cons_zero, List.set_cons_succ])
        (refine Rr.wr_y (by simp only [List.getElem?_toArray, List.getElem?_cons_succ, List.getElem?_cons_zero]; rfl) (by rfl) ?_
         apply Exists.intro
         refine ⟨fun wz hw _ => ?_, ?_⟩
         · have hcz := hw.cells.1
           go_simp
           apply Rg.up_enter
           (with_reducible refine (HI.out _ (by with_reducible repeat (first | exact Ext.refl _ | assumption | apply Ext.drewN | apply Ext.drew | apply Ext.alloc | (refine Ext.setCell ?_ (by simp <;> omega) _) | (refine Ext.trans ?_ (by assumption))))).mono ?_)
           rintro e w3 ⟨rfl, hb3⟩
           exact ⟨rfl, hb3⟩
         simp only [Act.put, List.setIfInBounds_toArray, List.set_cons_zero, List.set_cons_succ])
        refine Rr.wr_nil ?_
        intro wy hy hh
        simp only [List.length_cons, List.length_nil, List.drop_succ_cons, List.drop_zero, Nat.reduceAdd]
        go_wp2
        go_roundw
        case rel => exact ⟨k + 1, by omega, rfl, by go_num, hx.trans hy⟩
        case measure => simp [intOf]; omega
      · have hkn : k = ts.length := by omega
        subst hkn
        go_wp2
        go_ret
        exact ⟨rfl, hxW.trans hx⟩
end Go.Proofs.Ytgkdeknfmmgbdaa

namespace Go.Proofs.Ytgkdeknfmmgbdaa
set_option linter.unusedVariables false
set_option linter.unusedSimpArgs false
open Go.RowKit

abbrev priceB : ByteArray := ⟨#[112, 114, 105, 99, 101]⟩
abbrev lowB : ByteArray := ⟨#[108, 111, 119]⟩
abbrev qualB : ByteArray := ⟨#[113, 117, 97, 108, 105, 116, 121]⟩
abbrev mulB : ByteArray := ⟨#[42]⟩
abbrev quoB : ByteArray := ⟨#[47]⟩
abbrev subB : ByteArray := ⟨#[45]⟩
abbrev addB : ByteArray := ⟨#[43]⟩
abbrev minB : ByteArray := ⟨#[109, 105, 110]⟩
abbrev opE' (s : ByteArray) (a b : Ex) : Ex := .mk s (0, 0) nilB [a, b]
abbrev exT1 : Ex := opE' quoB (opE' mulB (numE (60, 1)) (nameE lowB)) (nameE priceB)
abbrev exT2 : Ex := opE' quoB (numE (1, 1)) (opE' subB (nameE priceB) (nameE lowB))
abbrev exHalf : Ex := opE' quoB (numE (1, 1)) (numE (2, 1))
abbrev exT3 : Ex := opE' minB (nameE priceB) exHalf
abbrev exT4 : Ex := opE' addB (nameE qualB) (numE (1, 1))
abbrev exZero : Ex := opE' quoB (numE (1, 1)) (numE (0, 1))
abbrev exT5 : Ex := opE' quoB (opE' addB (opE' mulB (numE (2, 1)) (numE (3, 1))) (nameE priceB)) exZero
abbrev exT6 : Ex := opE' quoB (opE' addB (numE (6, 1)) (nameE priceB)) exZero
theorem ex1 : evalI [(priceB, 90), (lowB, 60)] exT1 = ((40, 1), 0) := by decide +kernel
theorem ex2 : evalI [(priceB, 5), (lowB, 5)] exT2 = ((0, 0), 15) := by decide +kernel
theorem ex3 : evalI [(priceB, 3)] exT3 = ((1, 2), 0) := by decide +kernel
theorem ex4 : evalI [(priceB, 3)] exT4 = ((0, 0), 13) := by decide +kernel
theorem ex5 : simpE exT5 = exT6 := by kernel_rfl
end Go.Proofs.Ytgkdeknfmmgbdaa
