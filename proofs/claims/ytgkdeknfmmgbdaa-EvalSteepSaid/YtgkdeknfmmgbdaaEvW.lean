/-
  Package eval: value, an operation whose right part has an error. Conditions: the value stands for a right tree.
-/
import Derived.Test.YtgkdeknfmmgbdaaEvV
namespace Go.Proofs.Ytgkdeknfmmgbdaa
set_option linter.unusedVariables false
set_option linter.unusedSimpArgs false
open Go.RowKit

set_option maxRecDepth 100000 in
set_option maxHeartbeats 1000000 in
theorem value_op2 (S : Nat → Prop) (op : ByteArray) (n : Int × Int) (nm : ByteArray) (ta tb : Ex) (h0 : (op.toList == [110, 117, 109]) = false) (h : (op.toList == [110, 97, 109, 101]) = false) (hi : ¬ opIx op = -1)
    (vs : Vals) (w : World) (v sl : Value) (hv : Rd S w (.mk op n nm [ta, tb]) v) (hs : VRd S w vs sl) (ra rb : Except Int (Int × Int))
    (ia : ∀ (w : World) (v sl : Value), Rd S w ta v → VRd S w vs sl → Calls Try.prog 45 #[v, sl] w fun e w' => e = endE ra ∧ Ext w w')
    (ib : ∀ (w : World) (v sl : Value), Rd S w tb v → VRd S w vs sl → Calls Try.prog 45 #[v, sl] w fun e w' => e = endE rb ∧ Ext w w') (x : Int × Int) (f : Int) (hra : ra = .ok x) (hrb : rb = .error f) :
    Calls Try.prog 45 #[v, sl] w fun e w' => e = endE (.error f) ∧ Ext w w' := by
  subst hra hrb
  unfold Rd at hv
  obtain ⟨base, cap, rfl, -, -, hr⟩ := hv
  rcases hr with hr | ⟨b, rfl, -, hl⟩
  · cases hr
  obtain ⟨c, hc, hra⟩ := hl.get 0 (by simp)
  obtain ⟨d, hd, hrb⟩ := hl.get 1 (by simp)
  obtain ⟨oa, a1, a2, na, ba, la, ca, c0, c1, c2, c3, c4, ea⟩ := hra.shape
  obtain ⟨ob, b1, b2, nb, bb, lb, cb, d0, d1, d2, d3, d4, eb⟩ := hrb.shape
  simp only [List.getElem_cons_zero, List.getElem_cons_succ] at hra hrb
  rw [ea] at hra
  rw [eb] at hrb
  have hbl : b < w.heap.size := World.block_lt_of_cell? w _ (hc 0 (by decide))
  have k0 := (hc 0 (by decide)).trans (congrArg some c0)
  have k1 := (hc 1 (by decide)).trans (congrArg some c1)
  have k2 := (hc 2 (by decide)).trans (congrArg some c2)
  have k3 := (hc 3 (by decide)).trans (congrArg some c3)
  have k4 := (hc 4 (by decide)).trans (congrArg some c4)
  have k5 := (hd 0 (by decide)).trans (congrArg some d0)
  have k6 := (hd 1 (by decide)).trans (congrArg some d1)
  have k7 := (hd 2 (by decide)).trans (congrArg some d2)
  have k8 := (hd 3 (by decide)).trans (congrArg some d3)
  have k9 := (hd 4 (by decide)).trans (congrArg some d4)
  simp only [Nat.zero_add, Nat.zero_mul, Nat.add_zero, Nat.one_mul, Nat.reduceAdd] at k0 k1 k2 k3 k4 k5 k6 k7 k8 k9
  have IA := Lib.hid (fun w' (hw : Ext w w') => ia w' _ sl (Rd.ext hw hra) (hs.ext hw))
  have IB := Lib.hid (fun w' (hw : Ext w w') => ib w' _ sl (Rd.ext hw hrb) (hs.ext hw))
  have HF := Lib.hid (find_some op hi)
  clear hc hd c0 c1 c2 c3 c4 d0 d1 d2 d3 d4 ea eb hra hrb hl ia ib hs
  have g1 : b < w.heap.size + 1 := by omega
  have g2 : b < w.heap.size + 1 + 1 := by omega
  simp only [endE] at IA IB ⊢
  obtain ⟨x1, x2⟩ := x
  go_enter Try.func45, Try.ntmps45
  go_wp2_with (first
    | (go_at_call 73; (with_reducible refine (HF.out _).mono ?_); rintro e w1 ⟨rfl, hb⟩; obtain ⟨hc, hf⟩ := hb.cells; have hz := hb.size; simp at hz; have z1 : w.heap.size < w1.heap.size := (by omega); have z2 : b < w1.heap.size := (by omega))
    | (go_at_call 45; (with_reducible refine (IA.out _ (by with_reducible repeat (first | exact Ext.refl _ | assumption | apply Ext.drewN | apply Ext.drew | apply Ext.alloc | (refine Ext.setCell ?_ (by simp <;> omega) _) | (refine Ext.trans ?_ (by assumption))))).mono ?_); rintro e w2 ⟨rfl, hb2⟩; obtain ⟨hc2, hf2⟩ := hb2.cells; have hz2 := hb2.size; simp at hz2; have z3 : w.heap.size < w1.heap.size + 1 := (by omega); have z4 : b < w1.heap.size + 1 := (by omega); have z5 : w.heap.size < w2.heap.size := (by omega); have z6 : b < w2.heap.size := (by omega); have z7 : w1.heap.size < w2.heap.size := (by omega); have z8 : w.heap.size < w2.heap.size + 1 := (by omega); have z9 : b < w2.heap.size + 1 := (by omega); have z10 : w1.heap.size < w2.heap.size + 1 := (by omega)))
  refine Rr.wp_regionG [11] [(0, .y), (1, .y), (2, .y), (3, .y), (4, .y), (5, .y), (6, .y), (7, .z), (8, .y), (9, .y), (10, .y), (11, .y), (12, .m)] (fun _ => (.cells #[.int .i64 0, .int .i64 0] 26, Rg.ptr)) (fun c _ => c = [{ v := .iface 91 (.agg #[.int .i64 f]), recovered := false }]) ?_ (fun _ c a d v w h => by have h' : _ ∧ _ := h; exact ⟨(Rr.put_defers a d v).symm.trans h'.1, h'.2⟩) (by kernel_rfl) (by kernel_rfl) ?_
  · rintro c a' w' hd hx rfl
    exact ⟨hd, rfl, (by with_reducible repeat (first | exact Ext.refl _ | assumption | apply Ext.drewN | apply Ext.drew | apply Ext.alloc | (refine Ext.setCell ?_ (by simp <;> omega) _) | (refine Ext.trans ?_ (by assumption))))⟩
  repeat
    (refine Rr.wr_y (by rfl) (by rfl) ?_
     apply Exists.intro
     refine ⟨fun wz hw _ => ?_, ?_⟩
     · obtain ⟨hcz, hfz⟩ := hw.cells
       go_simp
       exact Rg.up_value
     simp only [Act.put, List.setIfInBounds_toArray, List.set_cons_zero, List.set_cons_succ])
  refine Rr.wr_z (fun _ _ => False) (by rfl) (by rfl) (fun _ _ _ h _ => h) ?_ ?_
  · intro wz hw _
    obtain ⟨hcz, hfz⟩ := hw.cells
    go_simp
    apply Rr.upR_panic
    (with_reducible refine (IB.out _ (by with_reducible repeat (first | exact Ext.refl _ | assumption | apply Ext.drewN | apply Ext.drew | apply Ext.alloc | (refine Ext.setCell ?_ (by simp <;> omega) _) | (refine Ext.trans ?_ (by assumption))))).mono ?_)
    rintro e w3 ⟨rfl, hb3⟩
    exact ⟨_, rfl, hb3, rfl⟩
  · intro u
    refine Rr.wr_dead (fun a fs hd w' _ hh => ?_) _ _ _ _ ⟨_, List.mem_cons_self, fun _ h => h⟩ ?_
    · obtain ⟨g, hg, hno⟩ := hd
      exact absurd (hh g hg) (hno _)
    · intro x hx
      simp only [List.mem_cons, List.not_mem_nil, or_false] at hx
      rcases hx with rfl | rfl | rfl | rfl | rfl
      · exact ⟨_, rfl, .inl rfl⟩
      · exact ⟨_, rfl, .inl rfl⟩
      · exact ⟨_, rfl, .inl rfl⟩
      · exact ⟨_, rfl, .inl rfl⟩
      · exact ⟨_, rfl, .inr ⟨rfl, fun a => ⟨rfl, fun w => by go_simp⟩⟩⟩

end Go.Proofs.Ytgkdeknfmmgbdaa
