/-
  Lemmas of this claim (JeK). Nothing is asked.
-/
import Derived.Test.YteomcpplajeidaaGreatJeJ
namespace Go.Proofs.YteomcpplajeidaaGreat
set_option linter.unusedVariables false
set_option linter.unusedSimpArgs false
set_option maxRecDepth 100000
open Go.RowKit
theorem same71 (s nm : ByteArray) (g : Value) (q : Nat) (w : World) (h : w.cell? ⟨q, 3, none⟩ = some (.string nm)) :
    Calls Tryz.prog 135 #[.agg #[.string s, g], .pointer (some ⟨q, 0, none⟩)] w fun e w' => e = .returned (.bool (s.toList == nm.toList)) ∧ Ext w w' := by
  have hpl : q < w.heap.size := World.block_lt_of_cell? w _ h
  go_enter Tryz.func135, Tryz.ntmps135
  go_wp2
  go_ret
  exact ⟨rfl, (by with_reducible repeat (first | exact Ext.refl _ | assumption | apply Ext.drewN | apply Ext.drew | apply Ext.alloc | (refine Ext.setCell ?_ (by simp <;> omega) _) | (refine Ext.trans ?_ (by assumption))))⟩
theorem enters71 (args : Array Value) (w : World) : (callFunc 135 args).run Tryz.prog w = .ok (.enter 135 args) w := by go_simp
def placeI (vs : Vals) (nm : ByteArray) : Int := idxZ (fun k => if h : k < vs.length then vs[k].1.toList == nm.toList else false) vs.length
theorem place_any (S : Nat → Prop) (vs : Vals) (nm : ByteArray) (w : World) (sl : Value) (hs : VRd S w vs sl) (q : Nat) (hq : w.cell? ⟨q, 3, none⟩ = some (.string nm)) :
    Calls Tryz.prog 126 #[sl, .func (.func 135) #[] #[.pointer (some ⟨q, 0, none⟩)]] w fun e w' => e = .returned (.int .i64 (placeI vs nm)) ∧ Ext w w' := by
  obtain ⟨base, cap, rfl, hn, -, hr⟩ := hs
  have hql : q < w.heap.size := World.block_lt_of_cell? w _ hq
  rcases hr with rfl | ⟨b, rfl, -, hc⟩
  · exact index70_nil base cap _ w
  · refine index70 b 0 vs.length cap hn 135 _ (fun k j => if h : k < vs.length then (if j = 0 then .string vs[k].1 else .int .i64 vs[k].2) else undef) _ w ?_ ?_ ?_ enters71
    · intro k hk
      rw [Nat.zero_add, (hc k hk).1]
      simp [hk]
    · intro k hk
      rw [Nat.zero_add, (hc k hk).2]
      simp [hk]
    · intro k w' hk hx
      simp only [hk, dif_pos, if_true]
      exact same71 vs[k].1 nm _ q w' ((hx.cells.1 q 3 hql).trans hq)
theorem place_none {vs : Vals} {nm : ByteArray} (h : look vs nm = none) : placeI vs nm = -1 := by
  rcases idx_look vs nm vs.length (Nat.le_refl _) with ⟨h1, _⟩ | ⟨k, hk, _, h2⟩
  · exact h1
  · rw [Nat.sub_self, List.drop_zero, h] at h2; cases h2
theorem place_some {vs : Vals} {nm : ByteArray} {n : Int} (h : look vs nm = some n) : ∃ k, ∃ hk : k < vs.length, placeI vs nm = (k : Int) ∧ vs[k].2 = n := by
  rcases idx_look vs nm vs.length (Nat.le_refl _) with ⟨_, h2⟩ | ⟨k, hk, h1, h2⟩
  · rw [Nat.sub_self, List.drop_zero, h] at h2; cases h2
  · rw [Nat.sub_self, List.drop_zero, h] at h2
    injection h2 with h2
    exact ⟨k, hk, h1, h2.symm⟩
def endE : Except Int (Int × Int) → Ending
  | .ok x => .returned (rv x)
  | .error f => .panicked [{ v := .iface 159 (.agg #[.int .i64 f]), recovered := false }]
theorem value_num (S : Nat → Prop) (op : ByteArray) (n : Int × Int) (nm : ByteArray) (ts : List Ex) (h : (op.toList == [110, 117, 109]) = true) (w : World) (v sl : Value) (hv : Rd S w (.mk op n nm ts) v) :
    Calls Tryz.prog 90 #[v, sl] w fun e w' => e = .returned (rv n) ∧ Ext w w' := by
  unfold Rd at hv
  obtain ⟨base, cap, rfl, -, -, -⟩ := hv
  go_enter Tryz.func90, Tryz.ntmps90
  go_wp2
  exact bodyPost_ret (v := rv n) (by simp [results, Tryz.results90, go_sem]) rfl ⟨rfl, (by with_reducible repeat (first | exact Ext.refl _ | assumption | apply Ext.drewN | apply Ext.drew | apply Ext.alloc | (refine Ext.setCell ?_ (by simp <;> omega) _) | (refine Ext.trans ?_ (by assumption))))⟩
theorem value_name (S : Nat → Prop) (op : ByteArray) (n : Int × Int) (nm : ByteArray) (ts : List Ex) (h0 : (op.toList == [110, 117, 109]) = false) (h : (op.toList == [110, 97, 109, 101]) = true) (vs : Vals) (w : World) (v sl : Value) (hv : Rd S w (.mk op n nm ts) v) (hs : VRd S w vs sl) :
    Calls Tryz.prog 90 #[v, sl] w fun e w' => e = endE (match look vs nm with | some k => .ok (k, 1) | none => .error 13) ∧ Ext w w' := by
  unfold Rd at hv
  obtain ⟨base, cap, rfl, -, -, -⟩ := hv
  have hmf : ∀ (fn : Fn) (first cap : Array Value) (w : World), (Instr.makeFunc fn first cap).run Tryz.prog w = .ok (.func fn first cap) w := fun _ _ _ _ => rfl
  have HP := Lib.hid (fun w' (hw : Ext w w') => place_any S vs nm w' sl (hs.ext hw))
  cases hl : look vs nm with
  | none =>
    rw [place_none hl] at HP
    simp only [endE]
    clear hl
    go_enter Tryz.func90, Tryz.ntmps90
    go_wp2_with (go_at_call 126; (with_reducible refine (HP.out _ (by with_reducible repeat (first | exact Ext.refl _ | assumption | apply Ext.drewN | apply Ext.drew | apply Ext.alloc | (refine Ext.setCell ?_ (by simp <;> omega) _) | (refine Ext.trans ?_ (by assumption)))) _ ?_).mono ?_); (simp [go_sem]); rintro e w1 ⟨rfl, hb⟩; obtain ⟨hc, hf⟩ := hb.cells)
    exact ⟨rfl, rfl, (by with_reducible repeat (first | exact Ext.refl _ | assumption | apply Ext.drewN | apply Ext.drew | apply Ext.alloc | (refine Ext.setCell ?_ (by simp <;> omega) _) | (refine Ext.trans ?_ (by assumption))))⟩
  | some z =>
    obtain ⟨k, hk, hp, hz⟩ := place_some hl
    obtain ⟨base', cap', rfl, hn, -, hr⟩ := hs
    rcases hr with rfl | ⟨b, rfl, -, hc⟩
    · cases hk
    have hck := (hc k hk).2
    rw [hz] at hck
    have hbl : b < w.heap.size := World.block_lt_of_cell? w _ hck
    have hkk : k < 1000001 := by omega
    rw [hp] at HP
    have HO := Lib.hid (fun w => Of_any z w)
    simp only [endE]
    clear hl hc hp hz
    go_enter Tryz.func90, Tryz.ntmps90
    go_wp2_with (first
      | (go_at_call 126; (with_reducible refine (HP.out _ (by with_reducible repeat (first | exact Ext.refl _ | assumption | apply Ext.drewN | apply Ext.drew | apply Ext.alloc | (refine Ext.setCell ?_ (by simp <;> omega) _) | (refine Ext.trans ?_ (by assumption)))) _ ?_).mono ?_); (simp [go_sem]); rintro e w1 ⟨rfl, hb⟩; obtain ⟨hc, hf⟩ := hb.cells; have hz := hb.size; simp at hz; have z1 : w.heap.size < w1.heap.size := (by omega); have z2 : w.heap.size + 1 < w1.heap.size := (by omega); have z3 : b < w.heap.size + 1 := (by omega); have z4 : b < w.heap.size + 1 + 1 := (by omega))
      | (go_at_call 136; (with_reducible refine (HO.out _).mono ?_); rintro e w2 ⟨rfl, hb2⟩; obtain ⟨hc2, hf2⟩ := hb2.cells))
    exact bodyPost_ret (v := rv (z, 1)) (by simp [results, Tryz.results90, go_sem, hc, hc2, z1, z2]) rfl ⟨rfl, (by with_reducible repeat (first | exact Ext.refl _ | assumption | apply Ext.drewN | apply Ext.drew | apply Ext.alloc | (refine Ext.setCell ?_ (by simp <;> omega) _) | (refine Ext.trans ?_ (by assumption))))⟩
set_option maxRecDepth 100000 in
set_option maxHeartbeats 1000000 in
theorem value_op1 (S : Nat → Prop) (op : ByteArray) (n : Int × Int) (nm : ByteArray) (ta tb : Ex) (h0 : (op.toList == [110, 117, 109]) = false) (h : (op.toList == [110, 97, 109, 101]) = false) (hi : ¬ opIx op = -1)
    (vs : Vals) (w : World) (v sl : Value) (hv : Rd S w (.mk op n nm [ta, tb]) v) (hs : VRd S w vs sl) (ra rb : Except Int (Int × Int))
    (ia : ∀ (w : World) (v sl : Value), Rd S w ta v → VRd S w vs sl → Calls Tryz.prog 90 #[v, sl] w fun e w' => e = endE ra ∧ Ext w w')
    (ib : ∀ (w : World) (v sl : Value), Rd S w tb v → VRd S w vs sl → Calls Tryz.prog 90 #[v, sl] w fun e w' => e = endE rb ∧ Ext w w') (f : Int) (hra : ra = .error f) :
    Calls Tryz.prog 90 #[v, sl] w fun e w' => e = endE (.error f) ∧ Ext w w' := by
  subst hra
  unfold Rd at hv
  obtain ⟨base, cap, rfl, -, -, hr⟩ := hv
  rcases hr with hr | ⟨b, rfl, -, hl⟩
  · cases hr
  obtain ⟨c, hc, hra⟩ := hl.get 0 (by simp)
  obtain ⟨d, hd, hrb⟩ := hl.get 1 (by simp)
  obtain ⟨oa, a1, a2, na, ba, la, ca, c0, c1, c2, c3, c4, ea⟩ := hra.shape
  obtain ⟨ob, b1, b2, nb, bb, lb, cb, d0, d1, d2, d3, d4, eb⟩ := hrb.shape
  simp only [List.getElem_cons_zero, List.getElem_cons_succ] at hra hrb
  rw [ea] at hra
  rw [eb] at hrb
  have hbl : b < w.heap.size := World.block_lt_of_cell? w _ (hc 0 (by decide))
  have k0 := (hc 0 (by decide)).trans (congrArg some c0)
  have k1 := (hc 1 (by decide)).trans (congrArg some c1)
  have k2 := (hc 2 (by decide)).trans (congrArg some c2)
  have k3 := (hc 3 (by decide)).trans (congrArg some c3)
  have k4 := (hc 4 (by decide)).trans (congrArg some c4)
  have k5 := (hd 0 (by decide)).trans (congrArg some d0)
  have k6 := (hd 1 (by decide)).trans (congrArg some d1)
  have k7 := (hd 2 (by decide)).trans (congrArg some d2)
  have k8 := (hd 3 (by decide)).trans (congrArg some d3)
  have k9 := (hd 4 (by decide)).trans (congrArg some d4)
  simp only [Nat.zero_add, Nat.zero_mul, Nat.add_zero, Nat.one_mul, Nat.reduceAdd] at k0 k1 k2 k3 k4 k5 k6 k7 k8 k9
  have IA := Lib.hid (fun w' (hw : Ext w w') => ia w' _ sl (Rd.ext hw hra) (hs.ext hw))
  have IB := Lib.hid (fun w' (hw : Ext w w') => ib w' _ sl (Rd.ext hw hrb) (hs.ext hw))
  have HF := Lib.hid (find_some op hi)
  clear hc hd c0 c1 c2 c3 c4 d0 d1 d2 d3 d4 ea eb hra hrb hl ia ib hs
  have g1 : b < w.heap.size + 1 := by omega
  have g2 : b < w.heap.size + 1 + 1 := by omega
  simp only [endE] at IA ⊢
  go_enter Tryz.func90, Tryz.ntmps90
  go_wp2_with (first
    | (go_at_call 137; (with_reducible refine (HF.out _).mono ?_); rintro e w1 ⟨rfl, hb⟩; obtain ⟨hc, hf⟩ := hb.cells; have hz := hb.size; simp at hz; have z1 : w.heap.size < w1.heap.size := (by omega); have z2 : b < w1.heap.size := (by omega))
    | (go_at_call 90; (with_reducible refine (IA.out _ (by with_reducible repeat (first | exact Ext.refl _ | assumption | apply Ext.drewN | apply Ext.drew | apply Ext.alloc | (refine Ext.setCell ?_ (by simp <;> omega) _) | (refine Ext.trans ?_ (by assumption))))).mono ?_); rintro e w2 ⟨rfl, hb2⟩))
  exact ⟨rfl, rfl, (by with_reducible repeat (first | exact Ext.refl _ | assumption | apply Ext.drewN | apply Ext.drew | apply Ext.alloc | (refine Ext.setCell ?_ (by simp <;> omega) _) | (refine Ext.trans ?_ (by assumption))))⟩
end Go.Proofs.YteomcpplajeidaaGreat
namespace Go.Proofs.YteomcpplajeidaaGreat
set_option linter.unusedVariables false
set_option linter.unusedSimpArgs false
set_option maxRecDepth 100000
open Go.RowKit
set_option maxRecDepth 100000 in
set_option maxHeartbeats 1000000 in
theorem value_op2 (S : Nat → Prop) (op : ByteArray) (n : Int × Int) (nm : ByteArray) (ta tb : Ex) (h0 : (op.toList == [110, 117, 109]) = false) (h : (op.toList == [110, 97, 109, 101]) = false) (hi : ¬ opIx op = -1)
    (vs : Vals) (w : World) (v sl : Value) (hv : Rd S w (.mk op n nm [ta, tb]) v) (hs : VRd S w vs sl) (ra rb : Except Int (Int × Int))
    (ia : ∀ (w : World) (v sl : Value), Rd S w ta v → VRd S w vs sl → Calls Tryz.prog 90 #[v, sl] w fun e w' => e = endE ra ∧ Ext w w')
    (ib : ∀ (w : World) (v sl : Value), Rd S w tb v → VRd S w vs sl → Calls Tryz.prog 90 #[v, sl] w fun e w' => e = endE rb ∧ Ext w w') (x : Int × Int) (f : Int) (hra : ra = .ok x) (hrb : rb = .error f) :
    Calls Tryz.prog 90 #[v, sl] w fun e w' => e = endE (.error f) ∧ Ext w w' := by
  subst hra hrb
  unfold Rd at hv
  obtain ⟨base, cap, rfl, -, -, hr⟩ := hv
  rcases hr with hr | ⟨b, rfl, -, hl⟩
  · cases hr
  obtain ⟨c, hc, hra⟩ := hl.get 0 (by simp)
  obtain ⟨d, hd, hrb⟩ := hl.get 1 (by simp)
  obtain ⟨oa, a1, a2, na, ba, la, ca, c0, c1, c2, c3, c4, ea⟩ := hra.shape
  obtain ⟨ob, b1, b2, nb, bb, lb, cb, d0, d1, d2, d3, d4, eb⟩ := hrb.shape
  simp only [List.getElem_cons_zero, List.getElem_cons_succ] at hra hrb
  rw [ea] at hra
  rw [eb] at hrb
  have hbl : b < w.heap.size := World.block_lt_of_cell? w _ (hc 0 (by decide))
  have k0 := (hc 0 (by decide)).trans (congrArg some c0)
  have k1 := (hc 1 (by decide)).trans (congrArg some c1)
  have k2 := (hc 2 (by decide)).trans (congrArg some c2)
  have k3 := (hc 3 (by decide)).trans (congrArg some c3)
  have k4 := (hc 4 (by decide)).trans (congrArg some c4)
  have k5 := (hd 0 (by decide)).trans (congrArg some d0)
  have k6 := (hd 1 (by decide)).trans (congrArg some d1)
  have k7 := (hd 2 (by decide)).trans (congrArg some d2)
  have k8 := (hd 3 (by decide)).trans (congrArg some d3)
  have k9 := (hd 4 (by decide)).trans (congrArg some d4)
  simp only [Nat.zero_add, Nat.zero_mul, Nat.add_zero, Nat.one_mul, Nat.reduceAdd] at k0 k1 k2 k3 k4 k5 k6 k7 k8 k9
  have IA := Lib.hid (fun w' (hw : Ext w w') => ia w' _ sl (Rd.ext hw hra) (hs.ext hw))
  have IB := Lib.hid (fun w' (hw : Ext w w') => ib w' _ sl (Rd.ext hw hrb) (hs.ext hw))
  have HF := Lib.hid (find_some op hi)
  clear hc hd c0 c1 c2 c3 c4 d0 d1 d2 d3 d4 ea eb hra hrb hl ia ib hs
  have g1 : b < w.heap.size + 1 := by omega
  have g2 : b < w.heap.size + 1 + 1 := by omega
  simp only [endE] at IA IB ⊢
  obtain ⟨x1, x2⟩ := x
  go_enter Tryz.func90, Tryz.ntmps90
  go_wp2_with (first
    | (go_at_call 137; (with_reducible refine (HF.out _).mono ?_); rintro e w1 ⟨rfl, hb⟩; obtain ⟨hc, hf⟩ := hb.cells; have hz := hb.size; simp at hz; have z1 : w.heap.size < w1.heap.size := (by omega); have z2 : b < w1.heap.size := (by omega))
    | (go_at_call 90; (with_reducible refine (IA.out _ (by with_reducible repeat (first | exact Ext.refl _ | assumption | apply Ext.drewN | apply Ext.drew | apply Ext.alloc | (refine Ext.setCell ?_ (by simp <;> omega) _) | (refine Ext.trans ?_ (by assumption))))).mono ?_); rintro e w2 ⟨rfl, hb2⟩; obtain ⟨hc2, hf2⟩ := hb2.cells; have hz2 := hb2.size; simp at hz2; have z3 : w.heap.size < w1.heap.size + 1 := (by omega); have z4 : b < w1.heap.size + 1 := (by omega); have z5 : w.heap.size < w2.heap.size := (by omega); have z6 : b < w2.heap.size := (by omega); have z7 : w1.heap.size < w2.heap.size := (by omega); have z8 : w.heap.size < w2.heap.size + 1 := (by omega); have z9 : b < w2.heap.size + 1 := (by omega); have z10 : w1.heap.size < w2.heap.size + 1 := (by omega)))
  refine Rr.wp_regionG [11] [(0, .y), (1, .y), (2, .y), (3, .y), (4, .y), (5, .y), (6, .y), (7, .z), (8, .y), (9, .y), (10, .y), (11, .y), (12, .m)] (fun _ => (.cells #[.int .i64 0, .int .i64 0] 30, Rg.ptr)) (fun c _ => c = [{ v := .iface 159 (.agg #[.int .i64 f]), recovered := false }]) ?_ (fun _ c a d v w h => by have h' : _ ∧ _ := h; exact ⟨(Rr.put_defers a d v).symm.trans h'.1, h'.2⟩) (by kernel_rfl) (by kernel_rfl) ?_
  · rintro c a' w' hd hx rfl
    exact ⟨hd, rfl, (by with_reducible repeat (first | exact Ext.refl _ | assumption | apply Ext.drewN | apply Ext.drew | apply Ext.alloc | (refine Ext.setCell ?_ (by simp <;> omega) _) | (refine Ext.trans ?_ (by assumption))))⟩
  repeat
    (refine Rr.wr_y (by rfl) (by rfl) ?_
     apply Exists.intro
     refine ⟨fun wz hw _ => ?_, ?_⟩
     · obtain ⟨hcz, hfz⟩ := hw.cells
       go_simp
       exact Rg.up_value
     simp only [Act.put, List.setIfInBounds_toArray, List.set_cons_zero, List.set_cons_succ])
  refine Rr.wr_z (fun _ _ => False) (by rfl) (by rfl) (fun _ _ _ h _ => h) ?_ ?_
  · intro wz hw _
    obtain ⟨hcz, hfz⟩ := hw.cells
    go_simp
    apply Rr.upR_panic
    (with_reducible refine (IB.out _ (by with_reducible repeat (first | exact Ext.refl _ | assumption | apply Ext.drewN | apply Ext.drew | apply Ext.alloc | (refine Ext.setCell ?_ (by simp <;> omega) _) | (refine Ext.trans ?_ (by assumption))))).mono ?_)
    rintro e w3 ⟨rfl, hb3⟩
    exact ⟨_, rfl, hb3, rfl⟩
  · intro u
    refine Rr.wr_dead (fun a fs hd w' _ hh => ?_) _ _ _ _ ⟨_, List.mem_cons_self, fun _ h => h⟩ ?_
    · obtain ⟨g, hg, hno⟩ := hd
      exact absurd (hh g hg) (hno _)
    · intro x hx
      simp only [List.mem_cons, List.not_mem_nil, or_false] at hx
      rcases hx with rfl | rfl | rfl | rfl | rfl
      · exact ⟨_, rfl, .inl rfl⟩
      · exact ⟨_, rfl, .inl rfl⟩
      · exact ⟨_, rfl, .inl rfl⟩
      · exact ⟨_, rfl, .inl rfl⟩
      · exact ⟨_, rfl, .inr ⟨rfl, fun a => ⟨rfl, fun w => by go_simp⟩⟩⟩
end Go.Proofs.YteomcpplajeidaaGreat
namespace Go.Proofs.YteomcpplajeidaaGreat
set_option linter.unusedVariables false
set_option linter.unusedSimpArgs false
set_option maxRecDepth 100000
open Go.RowKit
section
variable {ρ : Operand → Value} {d : Option Tmp} {x : Operand} {ty : TypeId} {ps : String} {af : Array Edge} {gd : Option (Nat × Bool)} {w : World} {b o : Nat}
theorem up_load29 {c0 c1 c2 c3 c4 : Value} (hx : ρ x = .pointer (some ⟨b, o, none⟩)) (h0 : w.cell? ⟨b, o, none⟩ = some c0) (h1 : w.cell? ⟨b, o + 1, none⟩ = some c1) (h2 : w.cell? ⟨b, o + 2, none⟩ = some c2) (h3 : w.cell? ⟨b, o + 3, none⟩ = some c3) (h4 : w.cell? ⟨b, o + 4, none⟩ = some c4) :
    Rg.up Tryz.prog w (.agg #[c0, c1, c2, c3, c4]) ((execOp ρ { dst := d, op := .load 33 x, type := ty, pos := ps, after := af, guard := gd }).run Tryz.prog w) := by
  simp only [execOp, hx]
  go_simp
  exact Rg.up_value
theorem up_load26 {c0 c1 : Value} (hx : ρ x = .pointer (some ⟨b, o, none⟩)) (h0 : w.cell? ⟨b, o, none⟩ = some c0) (h1 : w.cell? ⟨b, o + 1, none⟩ = some c1) :
    Rg.up Tryz.prog w (.agg #[c0, c1]) ((execOp ρ { dst := d, op := .load 30 x, type := ty, pos := ps, after := af, guard := gd }).run Tryz.prog w) := by
  simp only [execOp, hx]
  go_simp
  exact Rg.up_value
theorem up_load117 {c0 c1 : Value} (hx : ρ x = .pointer (some ⟨b, o, none⟩)) (h0 : w.cell? ⟨b, o, none⟩ = some c0) (h1 : w.cell? ⟨b, o + 1, none⟩ = some c1) :
    Rg.up Tryz.prog w (.agg #[c0, c1]) ((execOp ρ { dst := d, op := .load 202 x, type := ty, pos := ps, after := af, guard := gd }).run Tryz.prog w) := by
  simp only [execOp, hx]
  go_simp
  exact Rg.up_value
end
end Go.Proofs.YteomcpplajeidaaGreat
