/-
  Simplify, of a right formula: the row that it makes. Conditions: the value stands for a right tree.
-/
import Derived.Test.YtgkdeknfmmgbdaaJnI
namespace Go.Proofs.Ytgkdeknfmmgbdaa
set_option linter.unusedVariables false
set_option linter.unusedSimpArgs false
open Go.RowKit

/-- The result's parts lie in a row of its own, or there are none. -/
def TopOwn (w : World) (v : Value) : Prop := (∃ a b c d base cap, v = .agg #[a, b, c, d, .slice base 0 cap]) ∨ ∃ a b c d N, v = .agg #[a, b, c, d, .slice (some ⟨N, 0, none⟩) 2 2] ∧ ∃ cs, w.heap[N]? = some (.cells cs 29) ∧ cs.size = 10
theorem top_past {w : World} {v : Value} {p : Nat} {c0 c1 c2 c3 c4 : Value} (h : TopOwn w v) (h5 : w.cell? ⟨p, 5, none⟩ = none) : TopOwn (((((w.setCell ⟨p, 0, none⟩ c0).setCell ⟨p, 1, none⟩ c1).setCell ⟨p, 2, none⟩ c2).setCell ⟨p, 3, none⟩ c3).setCell ⟨p, 4, none⟩ c4) v := by
  rcases h with h | ⟨a, b, c, d, N, hv, cs, hN, hs⟩
  · exact .inl h
  · refine .inr ⟨a, b, c, d, N, hv, cs, ?_, hs⟩
    have hne : N ≠ p := by
      rintro rfl
      rw [(Rg.cells_of hN).1] at h5
      have := Array.getElem?_eq_none_iff.1 h5
      omega
    rw [heap_setCell_other _ _ _ _ hne, heap_setCell_other _ _ _ _ hne, heap_setCell_other _ _ _ _ hne, heap_setCell_other _ _ _ _ hne, heap_setCell_other _ _ _ _ hne]
    exact hN

set_option maxRecDepth 100000 in
set_option maxHeartbeats 2000000 in
theorem fold_op2 (T S : Nat → Prop) (op : ByteArray) (n : Int × Int) (nm : ByteArray) (ta tb : Ex) (hi : ¬ opIx op = -1)
    (w : World) (v : Value) (hv : Rd T w (.mk op n nm [ta, tb]) v) (hS : ∀ b, w.heap.size ≤ b → S b) (fa fb : Ex) (h2a : twoB fa = true) (h2b : twoB fb = true)
    (ia : ∀ (w' : World) (v : Value), Rd T w' ta v → w.heap.size ≤ w'.heap.size → Calls Try.prog 47 #[v] w' fun e w'' => ∃ v', e = .returned v' ∧ Ext w' w'' ∧ Rd S w'' fa v')
    (ib : ∀ (w' : World) (v : Value), Rd T w' tb v → w.heap.size ≤ w'.heap.size → Calls Try.prog 47 #[v] w' fun e w'' => ∃ v', e = .returned v' ∧ Ext w' w'' ∧ Rd S w'' fb v') :
    Calls Try.prog 47 #[v] w fun e w' => ∃ v', e = .returned v' ∧ Ext w w' ∧ Rd S w' (foldTwo op fa fb) v' ∧ TopOwn w' v' := by
  obtain ⟨of, ⟨nf1, nf2⟩, mf, tf⟩ := fa
  obtain ⟨og, ⟨ng1, ng2⟩, mg, tg⟩ := fb
  unfold Rd at hv
  obtain ⟨base, cap, rfl, -, -, hr⟩ := hv
  rcases hr with hr | ⟨b, rfl, -, hl⟩
  · cases hr
  obtain ⟨c, hc, hra⟩ := hl.get 0 (by simp)
  obtain ⟨d, hd, hrb⟩ := hl.get 1 (by simp)
  obtain ⟨oa, a1, a2, na, ba, la, ca, c0, c1, c2, c3, c4, ea⟩ := hra.shape
  obtain ⟨ob, b1, b2, nb, bb, lb, cb, d0, d1, d2, d3, d4, eb⟩ := hrb.shape
  simp only [List.getElem_cons_zero, List.getElem_cons_succ] at hra hrb
  rw [ea] at hra
  rw [eb] at hrb
  have hbl : b < w.heap.size := World.block_lt_of_cell? w _ (hc 0 (by decide))
  have k0 := (hc 0 (by decide)).trans (congrArg some c0)
  have k1 := (hc 1 (by decide)).trans (congrArg some c1)
  have k2 := (hc 2 (by decide)).trans (congrArg some c2)
  have k3 := (hc 3 (by decide)).trans (congrArg some c3)
  have k4 := (hc 4 (by decide)).trans (congrArg some c4)
  have k5 := (hd 0 (by decide)).trans (congrArg some d0)
  have k6 := (hd 1 (by decide)).trans (congrArg some d1)
  have k7 := (hd 2 (by decide)).trans (congrArg some d2)
  have k8 := (hd 3 (by decide)).trans (congrArg some d3)
  have k9 := (hd 4 (by decide)).trans (congrArg some d4)
  simp only [Nat.zero_add, Nat.zero_mul, Nat.add_zero, Nat.one_mul, Nat.reduceAdd] at k0 k1 k2 k3 k4 k5 k6 k7 k8 k9
  have IA := Lib.hid (fun w' (hw : Ext w w') => ia w' _ (Rd.ext hw hra) hw.size)
  have IB := Lib.hid (fun w' (hw : Ext w w') => ib w' _ (Rd.ext hw hrb) hw.size)
  have HF := Lib.hid (find_some op hi)
  clear hc hd c0 c1 c2 c3 c4 d0 d1 d2 d3 d4 ea eb hra hrb hl ia ib
  have g1 : b < w.heap.size + 1 := by omega
  have g2 : b < w.heap.size + 1 + 1 := by omega
  go_enter Try.func47, Try.ntmps47
  go_wp2_with (fail)
  have hx1 : Ext w ((w.alloc (.cells #[.string op, .int .i64 n.1, .int .i64 n.2, .string nm, .slice (some ⟨b, 0, none⟩) 2 cap] 29)).alloc (.cells #[.string ⟨#[]⟩, .int .i64 0, .int .i64 0, .string ⟨#[]⟩, .slice none 0 0] 29)) := (by with_reducible repeat (first | exact Ext.refl _ | assumption | apply Ext.drewN | apply Ext.drew | apply Ext.alloc | (refine Ext.setCell ?_ (by simp <;> omega) _) | (refine Ext.trans ?_ (by assumption))))
  have hw1 : ((w.alloc (.cells #[.string op, .int .i64 n.1, .int .i64 n.2, .string nm, .slice (some ⟨b, 0, none⟩) 2 cap] 29)).alloc (.cells #[.string ⟨#[]⟩, .int .i64 0, .int .i64 0, .string ⟨#[]⟩, .slice none 0 0] 29)).heap[w.heap.size]? = some (.cells #[.string op, .int .i64 n.1, .int .i64 n.2, .string nm, .slice (some ⟨b, 0, none⟩) 2 cap] 29) := by
    rw [Below.heap_alloc _ _ _ (by simp)]; exact block_new rfl
  have hw2 : ((w.alloc (.cells #[.string op, .int .i64 n.1, .int .i64 n.2, .string nm, .slice (some ⟨b, 0, none⟩) 2 cap] 29)).alloc (.cells #[.string ⟨#[]⟩, .int .i64 0, .int .i64 0, .string ⟨#[]⟩, .slice none 0 0] 29)).heap[w.heap.size + 1]? = some (.cells #[.string ⟨#[]⟩, .int .i64 0, .int .i64 0, .string ⟨#[]⟩, .slice none 0 0] 29) := block_new (by simp)
  generalize (w.alloc (.cells #[.string op, .int .i64 n.1, .int .i64 n.2, .string nm, .slice (some ⟨b, 0, none⟩) 2 cap] 29)).alloc (.cells #[.string ⟨#[]⟩, .int .i64 0, .int .i64 0, .string ⟨#[]⟩, .slice none 0 0] 29) = W at *
  have cw := hx1.cells.1
  have j0 := (cw b 0 hbl).trans k0
  have j1 := (cw b 1 hbl).trans k1
  have j2 := (cw b 2 hbl).trans k2
  have j3 := (cw b 3 hbl).trans k3
  have j4 := (cw b 4 hbl).trans k4
  have j5 := (cw b 5 hbl).trans k5
  have j6 := (cw b 6 hbl).trans k6
  have j7 := (cw b 7 hbl).trans k7
  have j8 := (cw b 8 hbl).trans k8
  have j9 := (cw b 9 hbl).trans k9
  have e4 : W.cell? ⟨w.heap.size, 4, none⟩ = some (.slice (some ⟨b, 0, none⟩) 2 cap) := by rw [cell_of_row W _ _ _ _ _ hw1]; rfl
  have s1 : w.heap.size < W.heap.size := Rg.lt_of_heap hw1
  have s2 : w.heap.size + 1 < W.heap.size := Rg.lt_of_heap hw2
  have s5 : b < W.heap.size := by omega
  clear cw k0 k1 k2 k3 k4 k5 k6 k7 k8 k9 g1 g2
  go_cut [3, 4] (fun s3 s4 wx => ∃ (p q : Nat) (bf : Option Addr) (cf : Nat) (bg : Option Addr) (cg : Nat), s3 = .pointer (some ⟨p, 0, none⟩) ∧ s4 = .pointer (some ⟨q, 0, none⟩) ∧ p < wx.heap.size ∧ q < wx.heap.size ∧
    cellsE wx p 0 (at5 (.string of) (.int .i64 nf1) (.int .i64 nf2) (.string mf) (.slice bf tf.length cf)) ∧ cellsE wx q 0 (at5 (.string og) (.int .i64 ng1) (.int .i64 ng2) (.string mg) (.slice bg tg.length cg)) ∧
    Rd S wx (.mk of (nf1, nf2) mf tf) (.agg #[.string of, .int .i64 nf1, .int .i64 nf2, .string mf, .slice bf tf.length cf]) ∧ Rd S wx (.mk og (ng1, ng2) mg tg) (.agg #[.string og, .int .i64 ng1, .int .i64 ng2, .string mg, .slice bg tg.length cg]) ∧ Ext W wx)
  case first =>
    refine Rr.wp_region [(0, .y), (1, .y), (2, .y), (3, .y), (5, .y), (6, .y), (7, .y), (8, .y), (4, .z), (9, .z), (10, .m), (11, .m)] (fun _ => (.cells #[.string ⟨#[]⟩, .int .i64 0, .int .i64 0, .string ⟨#[]⟩, .slice none 0 0] 29, Rg.ptr)) (by kernel_rfl) (by kernel_rfl) ?_
    (refine Rr.wr_y (by simp only [List.getElem?_toArray, List.getElem?_cons_succ, List.getElem?_cons_zero]; rfl) (by rfl) ?_
     apply Exists.intro
     refine ⟨fun wz hw _ => ?_, ?_⟩
     · have hcz := hw.cells.1
       go_simp
       (with_reducible exact Rg.up_value)
     simp only [Act.put, List.setIfInBounds_toArray, List.set_cons_zero, List.set_cons_succ])
    (refine Rr.wr_y (by simp only [List.getElem?_toArray, List.getElem?_cons_succ, List.getElem?_cons_zero]; rfl) (by rfl) ?_
     apply Exists.intro
     refine ⟨fun wz hw _ => ?_, ?_⟩
     · have hcz := hw.cells.1
       go_simp
       (with_reducible exact Rg.up_value)
     simp only [Act.put, List.setIfInBounds_toArray, List.set_cons_zero, List.set_cons_succ])
    (refine Rr.wr_y (by simp only [List.getElem?_toArray, List.getElem?_cons_succ, List.getElem?_cons_zero]; rfl) (by rfl) ?_
     apply Exists.intro
     refine ⟨fun wz hw _ => ?_, ?_⟩
     · have hcz := hw.cells.1
       go_simp
       (with_reducible exact Rg.up_value)
     simp only [Act.put, List.setIfInBounds_toArray, List.set_cons_zero, List.set_cons_succ])
    (refine Rr.wr_y (by simp only [List.getElem?_toArray, List.getElem?_cons_succ, List.getElem?_cons_zero]; rfl) (by rfl) ?_
     apply Exists.intro
     refine ⟨fun wz hw _ => ?_, ?_⟩
     · have hcz := hw.cells.1
       exact up_load29 (by rfl) ((hcz _ _ s5).trans j0) ((hcz _ _ s5).trans j1) ((hcz _ _ s5).trans j2) ((hcz _ _ s5).trans j3) ((hcz _ _ s5).trans j4)
     simp only [Act.put, List.setIfInBounds_toArray, List.set_cons_zero, List.set_cons_succ])
    (refine Rr.wr_y (by simp only [List.getElem?_toArray, List.getElem?_cons_succ, List.getElem?_cons_zero]; rfl) (by rfl) ?_
     apply Exists.intro
     refine ⟨fun wz hw _ => ?_, ?_⟩
     · have hcz := hw.cells.1
       go_simp
       (with_reducible exact Rg.up_value)
     simp only [Act.put, List.setIfInBounds_toArray, List.set_cons_zero, List.set_cons_succ])
    (refine Rr.wr_y (by simp only [List.getElem?_toArray, List.getElem?_cons_succ, List.getElem?_cons_zero]; rfl) (by rfl) ?_
     apply Exists.intro
     refine ⟨fun wz hw _ => ?_, ?_⟩
     · have hcz := hw.cells.1
       go_simp
       (with_reducible exact Rg.up_value)
     simp only [Act.put, List.setIfInBounds_toArray, List.set_cons_zero, List.set_cons_succ])
    (refine Rr.wr_y (by simp only [List.getElem?_toArray, List.getElem?_cons_succ, List.getElem?_cons_zero]; rfl) (by rfl) ?_
     apply Exists.intro
     refine ⟨fun wz hw _ => ?_, ?_⟩
     · have hcz := hw.cells.1
       go_simp
       (with_reducible exact Rg.up_value)
     simp only [Act.put, List.setIfInBounds_toArray, List.set_cons_zero, List.set_cons_succ])
    (refine Rr.wr_y (by simp only [List.getElem?_toArray, List.getElem?_cons_succ, List.getElem?_cons_zero]; rfl) (by rfl) ?_
     apply Exists.intro
     refine ⟨fun wz hw _ => ?_, ?_⟩
     · have hcz := hw.cells.1
       exact up_load29 (by rfl) ((hcz _ _ s5).trans j5) ((hcz _ _ s5).trans j6) ((hcz _ _ s5).trans j7) ((hcz _ _ s5).trans j8) ((hcz _ _ s5).trans j9)
     simp only [Act.put, List.setIfInBounds_toArray, List.set_cons_zero, List.set_cons_succ])
    refine Rr.wr_z (fun v w' => Rd S w' (.mk of (nf1, nf2) mf tf) v) (by simp only [List.getElem?_toArray, List.getElem?_cons_succ, List.getElem?_cons_zero]; rfl) (by rfl) (fun v w1 w2 h e => by first | exact Rd.ext e h | exact h.ext e) (fun wz hw hh => ?_) (fun u => ?_)
    · have hcz := hw.cells.1
      go_simp
      apply Rr.upR_enter
      (with_reducible refine (IA.out _ (by with_reducible repeat (first | exact Ext.refl _ | assumption | apply Ext.drewN | apply Ext.drew | apply Ext.alloc | (refine Ext.setCell ?_ (by simp <;> omega) _) | (refine Ext.trans ?_ (by assumption))))).mono ?_)
      rintro e w3 ⟨v3, rfl, hx3, hr3⟩
      exact ⟨v3, rfl, hx3, hr3⟩
    simp only [Act.put, List.setIfInBounds_toArray, List.set_cons_zero, List.set_cons_succ]
    refine Rr.wr_z (fun v w' => Rd S w' (.mk og (ng1, ng2) mg tg) v) (by simp only [List.getElem?_toArray, List.getElem?_cons_succ, List.getElem?_cons_zero]; rfl) (by rfl) (fun v w1 w2 h e => by first | exact Rd.ext e h | exact h.ext e) (fun wz hw hh => ?_) (fun u => ?_)
    · have hcz := hw.cells.1
      go_simp
      apply Rr.upR_enter
      (with_reducible refine (IB.out _ (by with_reducible repeat (first | exact Ext.refl _ | assumption | apply Ext.drewN | apply Ext.drew | apply Ext.alloc | (refine Ext.setCell ?_ (by simp <;> omega) _) | (refine Ext.trans ?_ (by assumption))))).mono ?_)
      rintro e w3 ⟨v3, rfl, hx3, hr3⟩
      exact ⟨v3, rfl, hx3, hr3⟩
    simp only [Act.put, List.setIfInBounds_toArray, List.set_cons_zero, List.set_cons_succ]
    refine Rr.wr_m (by simp only [List.getElem?_toArray, List.getElem?_cons_succ, List.getElem?_cons_zero]; rfl) (by rfl) (fun wz => by go_simp) (fun p hp => ?_)
    simp only [Act.put, List.setIfInBounds_toArray, List.set_cons_zero, List.set_cons_succ]
    refine Rr.wr_m (by simp only [List.getElem?_toArray, List.getElem?_cons_succ, List.getElem?_cons_zero]; rfl) (by rfl) (fun wz => by go_simp) (fun q hq => ?_)
    simp only [Act.put, List.setIfInBounds_toArray, List.set_cons_zero, List.set_cons_succ]
    refine Rr.wr_nil ?_
    intro wy hy hh
    have hq1 := hh _ List.mem_cons_self
    have hp1 := hh _ (List.mem_cons_of_mem _ List.mem_cons_self)
    have hr2 := hh _ (List.mem_cons_of_mem _ (List.mem_cons_of_mem _ List.mem_cons_self))
    have hr1 := hh _ (List.mem_cons_of_mem _ (List.mem_cons_of_mem _ (List.mem_cons_of_mem _ List.mem_cons_self)))
    obtain ⟨q1, q2⟩ := hq1
    obtain ⟨p1, p2⟩ := hp1
    have hr3 := hr1
    have hr4 := hr2
    unfold Rd at hr3 hr4
    obtain ⟨bf, cf, rfl, -, -, -⟩ := hr3
    obtain ⟨bg, cg, rfl, -, -, -⟩ := hr4
    obtain ⟨cp, fp, lp⟩ := Rg.cells_of p2
    obtain ⟨cq, fq, lq⟩ := Rg.cells_of q2
    have hpq : ¬ p = q := fun e => hq (by rw [e]; exact List.mem_cons_self)
    have hqp : ¬ q = p := fun e => hpq e.symm
    simp only [List.length_cons, List.length_nil, List.drop_succ_cons, List.drop_zero, Nat.reduceAdd]
    have HR1 := Lib.hid hr1; have HR2 := Lib.hid hr2
    clear hr1 hr2 hh
    go_wp2
    go_meet
    case rel =>
      have far : ∀ b o, (S b ∧ ∃ u, wy.cell? ⟨b, 5, none⟩ = some u) → b < wy.heap.size → ((((((((((wy.setCell ⟨p, 0, none⟩ (.string of)).setCell ⟨p, 1, none⟩ (.int .i64 nf1)).setCell ⟨p, 2, none⟩ (.int .i64 nf2)).setCell ⟨p, 3, none⟩ (.string mf)).setCell ⟨p, 4, none⟩ (.slice bf tf.length cf)).setCell ⟨q, 0, none⟩ (.string og)).setCell ⟨q, 1, none⟩ (.int .i64 ng1)).setCell ⟨q, 2, none⟩ (.int .i64 ng2)).setCell ⟨q, 3, none⟩ (.string mg)).setCell ⟨q, 4, none⟩ (.slice bg tg.length cg)).cell? ⟨b, o, none⟩ = wy.cell? ⟨b, o, none⟩ := by
        rintro b o ⟨-, u, hu⟩ -
        have h1 : ¬ b = p := by rintro rfl; rw [cp 5] at hu; cases hu
        have h2 : ¬ b = q := by rintro rfl; rw [cq 5] at hu; cases hu
        have h3 : ¬ p = b := fun e => h1 e.symm
        have h4 : ¬ q = b := fun e => h2 e.symm
        go_simp
      refine ⟨p, q, bf, cf, bg, cg, rfl, rfl, by simpa using lp, by simpa using lq, ?_, ?_, ?_, ?_, ?_⟩
      · intro j hj
        match j, hj with
        | 0, _ => go_simp; rfl
        | 1, _ => go_simp; rfl
        | 2, _ => go_simp; rfl
        | 3, _ => go_simp; rfl
        | 4, _ => go_simp; rfl
      · intro j hj
        match j, hj with
        | 0, _ => go_simp; rfl
        | 1, _ => go_simp; rfl
        | 2, _ => go_simp; rfl
        | 3, _ => go_simp; rfl
        | 4, _ => go_simp; rfl
      · exact Rd.frame far (fun _ h => h.1) _ _ (Rd.big _ _ h2a HR1.out)
      · exact Rd.frame far (fun _ h => h.1) _ _ (Rd.big _ _ h2b HR2.out)
      · exact (by with_reducible repeat (first | exact Ext.refl _ | assumption | apply Ext.drewN | apply Ext.drew | apply Ext.alloc | (refine Ext.setCell ?_ (by simp <;> omega) _) | (refine Ext.trans ?_ (by assumption))))
  case rest =>
    obtain ⟨wd, rfl⟩ : ∃ wd : World, wd = wc := ⟨_, rfl⟩
    obtain ⟨p, q, bf, cf, bg, cg, rfl, rfl, lp, lq, cp, cq, r1, r2, hx⟩ := hcut
    have HR1 := Lib.hid r1; have HR2 := Lib.hid r2
    have f0 : wd.cell? ⟨p, 0, none⟩ = _ := cp 0 (by decide)
    have f1 : wd.cell? ⟨p, 1, none⟩ = _ := cp 1 (by decide)
    have f2 : wd.cell? ⟨p, 2, none⟩ = _ := cp 2 (by decide)
    have f3 : wd.cell? ⟨p, 3, none⟩ = _ := cp 3 (by decide)
    have f4 : wd.cell? ⟨p, 4, none⟩ = _ := cp 4 (by decide)
    have g0 : wd.cell? ⟨q, 0, none⟩ = _ := cq 0 (by decide)
    have g1 : wd.cell? ⟨q, 1, none⟩ = _ := cq 1 (by decide)
    have g2 : wd.cell? ⟨q, 2, none⟩ = _ := cq 2 (by decide)
    have g3 : wd.cell? ⟨q, 3, none⟩ = _ := cq 3 (by decide)
    have g4 : wd.cell? ⟨q, 4, none⟩ = _ := cq 4 (by decide)
    simp only [at5] at f0 f1 f2 f3 f4 g0 g1 g2 g3 g4
    have i0 : wd.heap[w.heap.size]? = _ := (hx.block _ s1).trans hw1
    have i1 : wd.heap[w.heap.size + 1]? = _ := (hx.block _ s2).trans hw2
    obtain ⟨ci, -, li⟩ := Rg.cells_of i0
    obtain ⟨cj, fj, lj⟩ := Rg.cells_of i1
    have x5 := cj 5
    have b0 := ci 0
    have v0 := cj 0
    have v1 := cj 1
    have v2 := cj 2
    have v3 := cj 3
    have v4 := cj 4
    simp only [List.getElem?_toArray, List.getElem?_cons_succ, List.getElem?_cons_zero, List.getElem?_nil] at b0 x5 v0 v1 v2 v3 v4
    have y0 := fj 0
    have y1 := fj 1
    have y2 := fj 2
    have y3 := fj 3
    have y4 := fj 4
    clear cp cq r1 r2 ci cj fj i0 i1 hw1 hw2 j0 j1 j2 j3 j4 j5 j6 j7 j8 j9 e4 IA IB
    have HXX := Lib.hid (hx1.trans hx)
    have hxx : Ext w wd := hx1.trans hx
    clear hx hx1
    have njd : ¬ w.heap.size + 1 = wd.heap.size := by omega
    cases ha : (of.toList == [110, 117, 109])
    · have HT := Lib.hid (show foldTwo op (.mk of (nf1, nf2) mf tf) (.mk og (ng1, ng2) mg tg) = .mk op (0, 0) nilB [.mk of (nf1, nf2) mf tf, .mk og (ng1, ng2) mg tg] from by simp [foldTwo, Ex.op, ha])
      go_wp2
      have far : ∀ b o, ¬ b = w.heap.size + 1 → b < wd.heap.size → ((((((wd.setCell ⟨w.heap.size + 1, 0, none⟩ (.string op)).setCell ⟨w.heap.size + 1, 1, none⟩ (.int .i64 0)).setCell ⟨w.heap.size + 1, 2, none⟩ (.int .i64 0)).setCell ⟨w.heap.size + 1, 3, none⟩ (.string ⟨#[]⟩)).setCell ⟨w.heap.size + 1, 4, none⟩ (.slice (some ⟨wd.heap.size, 0, none⟩) 2 2)).alloc (.cells #[.string of, .int .i64 nf1, .int .i64 nf2, .string mf, .slice bf tf.length cf, .string og, .int .i64 ng1, .int .i64 ng2, .string mg, .slice bg tg.length cg] 29)).cell? ⟨b, o, none⟩ = wd.cell? ⟨b, o, none⟩ := by
        intro b o h1 h2
        have h3 : ¬ w.heap.size + 1 = b := fun e => h1 e.symm
        have h4 : ¬ b = wd.heap.size := by omega
        go_simp
      exact bodyPost_ret (v := .agg #[.string op, .int .i64 0, .int .i64 0, .string nilB, .slice (some ⟨wd.heap.size, 0, none⟩) 2 2]) (by simp [results, Try.results47, go_sem, v0, v1, v2, v3, v4, lj, njd]) rfl ⟨_, rfl, (by with_reducible repeat (first | exact Ext.refl _ | assumption | apply Ext.drewN | apply Ext.drew | apply Ext.alloc | (refine Ext.setCell ?_ (by simp <;> omega) _) | (refine Ext.trans ?_ (by assumption)))), by rw [HT.out]; exact fold_done h2a h2b (HR1.out) (HR2.out) x5 far (hS _ (by omega)) (block_new (by simp)), .inr ⟨_, _, _, _, _, rfl, _, block_new (by simp), rfl⟩⟩
    · cases hb : (og.toList == [110, 117, 109])
      · have HT := Lib.hid (show foldTwo op (.mk of (nf1, nf2) mf tf) (.mk og (ng1, ng2) mg tg) = .mk op (0, 0) nilB [.mk of (nf1, nf2) mf tf, .mk og (ng1, ng2) mg tg] from by simp [foldTwo, Ex.op, ha, hb])
        go_wp2
        have far : ∀ b o, ¬ b = w.heap.size + 1 → b < wd.heap.size → ((((((wd.setCell ⟨w.heap.size + 1, 0, none⟩ (.string op)).setCell ⟨w.heap.size + 1, 1, none⟩ (.int .i64 0)).setCell ⟨w.heap.size + 1, 2, none⟩ (.int .i64 0)).setCell ⟨w.heap.size + 1, 3, none⟩ (.string ⟨#[]⟩)).setCell ⟨w.heap.size + 1, 4, none⟩ (.slice (some ⟨wd.heap.size, 0, none⟩) 2 2)).alloc (.cells #[.string of, .int .i64 nf1, .int .i64 nf2, .string mf, .slice bf tf.length cf, .string og, .int .i64 ng1, .int .i64 ng2, .string mg, .slice bg tg.length cg] 29)).cell? ⟨b, o, none⟩ = wd.cell? ⟨b, o, none⟩ := by
          intro b o h1 h2
          have h3 : ¬ w.heap.size + 1 = b := fun e => h1 e.symm
          have h4 : ¬ b = wd.heap.size := by omega
          go_simp
        exact bodyPost_ret (v := .agg #[.string op, .int .i64 0, .int .i64 0, .string nilB, .slice (some ⟨wd.heap.size, 0, none⟩) 2 2]) (by simp [results, Try.results47, go_sem, v0, v1, v2, v3, v4, lj, njd]) rfl ⟨_, rfl, (by with_reducible repeat (first | exact Ext.refl _ | assumption | apply Ext.drewN | apply Ext.drew | apply Ext.alloc | (refine Ext.setCell ?_ (by simp <;> omega) _) | (refine Ext.trans ?_ (by assumption)))), by rw [HT.out]; exact fold_done h2a h2b (HR1.out) (HR2.out) x5 far (hS _ (by omega)) (block_new (by simp)), .inr ⟨_, _, _, _, _, rfl, _, block_new (by simp), rfl⟩⟩
      · have hn1 : I2 (nf1, nf2) := by have h := HR1.out; unfold Rd at h; obtain ⟨_, _, _, h, -⟩ := h; exact h
        have hn2 : I2 (ng1, ng2) := by have h := HR2.out; unfold Rd at h; obtain ⟨_, _, _, h, -⟩ := h; exact h
        have HA := Lib.hid (fun w => apply_any div64_said (opIx op).toNat (by have := opIx_bd op; omega) (nf1, nf2) (ng1, ng2) hn1 hn2 w)
        have hI := applyI_I2 (opIx op).toNat (nf1, nf2) (ng1, ng2) hn1 hn2
        have hT : foldTwo op (.mk of (nf1, nf2) mf tf) (.mk og (ng1, ng2) mg tg) = (if (applyI (opIx op).toNat (nf1, nf2) (ng1, ng2)).2 = 0 then numE (applyI (opIx op).toNat (nf1, nf2) (ng1, ng2)).1 else .mk op (0, 0) nilB [.mk of (nf1, nf2) mf tf, .mk og (ng1, ng2) mg tg]) := by
          unfold foldTwo
          rw [if_pos (by simp [Ex.op, ha, hb])]
          rfl
        generalize applyI (opIx op).toNat (nf1, nf2) (ng1, ng2) = r at *
        obtain ⟨⟨u1, u2⟩, rf⟩ := r
        have HTT := Lib.hid hT
        clear hT hn1 hn2
        have z0 : w.heap.size < wd.heap.size + 1 := by omega
        have z00 : p < wd.heap.size + 1 := by omega
        have z01 : q < wd.heap.size + 1 := by omega
        by_cases hrf : rf = 0
        · subst hrf
          have HT := Lib.hid (HTT.out.trans (if_pos rfl))
          go_wp2_with (first
            | (go_at_call 73; (with_reducible refine (HF.out _).mono ?_); rintro e w1 ⟨rfl, hb1⟩; obtain ⟨hc1, hf1⟩ := hb1.cells; have hz1 := hb1.size; have z1 : w.heap.size < w1.heap.size := (by omega); have z2 : p < w1.heap.size := (by omega); have z3 : q < w1.heap.size := (by omega); have z4 : w.heap.size + 1 < w1.heap.size := (by omega))
            | (go_at_call 74; (with_reducible refine (HA.out _).mono ?_); rintro e w2 ⟨rfl, hb2⟩; obtain ⟨hc2, hf2⟩ := hb2.cells; have hz2 := hb2.size; simp at hz2; have z5 : w.heap.size < w2.heap.size := (by omega); have z6 : p < w2.heap.size := (by omega); have z7 : q < w2.heap.size := (by omega); have z8 : w.heap.size + 1 < w2.heap.size := (by omega); have z9 : w.heap.size + 1 < w1.heap.size + 1 := (by omega)))
          have q0 : w2.cell? ⟨w.heap.size + 1, 0, none⟩ = some (.string ⟨#[]⟩) := by go_simp
          have q1 : w2.cell? ⟨w.heap.size + 1, 1, none⟩ = some (.int .i64 0) := by go_simp
          have q2 : w2.cell? ⟨w.heap.size + 1, 2, none⟩ = some (.int .i64 0) := by go_simp
          have q3 : w2.cell? ⟨w.heap.size + 1, 3, none⟩ = some (.string ⟨#[]⟩) := by go_simp
          have q4 : w2.cell? ⟨w.heap.size + 1, 4, none⟩ = some (.slice none 0 0) := by go_simp
          have njd2 : ¬ w.heap.size + 1 = w2.heap.size := by omega
          exact bodyPost_ret (v := leafV numB (u1, u2) nilB) (by simp [results, Try.results47, go_sem, q0, q1, q2, q3, q4, njd2, z8]) rfl ⟨_, rfl, (by with_reducible repeat (first | exact Ext.refl _ | assumption | apply Ext.drewN | apply Ext.drew | apply Ext.alloc | (refine Ext.setCell ?_ (by simp <;> omega) _) | (refine Ext.trans ?_ (by assumption)))), by rw [HT.out]; exact Rd.leaf hI, .inl ⟨_, _, _, _, _, _, rfl⟩⟩
        · have HT := Lib.hid (HTT.out.trans (if_neg hrf))
          go_wp2_with (first
            | (go_at_call 73; (with_reducible refine (HF.out _).mono ?_); rintro e w1 ⟨rfl, hb1⟩; obtain ⟨hc1, hf1⟩ := hb1.cells; have hz1 := hb1.size; have z1 : w.heap.size < w1.heap.size := (by omega); have z2 : p < w1.heap.size := (by omega); have z3 : q < w1.heap.size := (by omega); have z4 : w.heap.size + 1 < w1.heap.size := (by omega))
            | (go_at_call 74; (with_reducible refine (HA.out _).mono ?_); rintro e w2 ⟨rfl, hb2⟩; obtain ⟨hc2, hf2⟩ := hb2.cells; have hz2 := hb2.size; simp at hz2; have z5 : w.heap.size < w2.heap.size := (by omega); have z6 : p < w2.heap.size := (by omega); have z7 : q < w2.heap.size := (by omega); have z8 : w.heap.size + 1 < w2.heap.size := (by omega); have z9 : w.heap.size + 1 < w1.heap.size + 1 := (by omega)))
          have q0 : w2.cell? ⟨w.heap.size + 1, 0, none⟩ = some (.string ⟨#[]⟩) := by go_simp
          have q1 : w2.cell? ⟨w.heap.size + 1, 1, none⟩ = some (.int .i64 0) := by go_simp
          have q2 : w2.cell? ⟨w.heap.size + 1, 2, none⟩ = some (.int .i64 0) := by go_simp
          have q3 : w2.cell? ⟨w.heap.size + 1, 3, none⟩ = some (.string ⟨#[]⟩) := by go_simp
          have q4 : w2.cell? ⟨w.heap.size + 1, 4, none⟩ = some (.slice none 0 0) := by go_simp
          have njd2 : ¬ w.heap.size + 1 = w2.heap.size := by omega
          have njd3 : ¬ w.heap.size + 1 = w2.heap.size + 1 := by omega
          have z10 : w.heap.size + 1 < w2.heap.size + 1 := by omega
          have h12 : Ext wd w2 := (by with_reducible repeat (first | exact Ext.refl _ | assumption | apply Ext.drewN | apply Ext.drew | apply Ext.alloc | (refine Ext.setCell ?_ (by simp <;> omega) _) | (refine Ext.trans ?_ (by assumption))))
          have far : ∀ b o, ¬ b = w.heap.size + 1 → b < w2.heap.size → (((((((w2.setCell ⟨w.heap.size + 1, 0, none⟩ (.string op)).setCell ⟨w.heap.size + 1, 1, none⟩ (.int .i64 0)).setCell ⟨w.heap.size + 1, 2, none⟩ (.int .i64 0)).setCell ⟨w.heap.size + 1, 3, none⟩ (.string ⟨#[]⟩)).setCell ⟨w.heap.size + 1, 4, none⟩ (.slice (some ⟨w2.heap.size + 1, 0, none⟩) 2 2)).alloc (.cells #[.int .i64 u1, .int .i64 u2] 26)).alloc (.cells #[.string of, .int .i64 nf1, .int .i64 nf2, .string mf, .slice bf tf.length cf, .string og, .int .i64 ng1, .int .i64 ng2, .string mg, .slice bg tg.length cg] 29)).cell? ⟨b, o, none⟩ = w2.cell? ⟨b, o, none⟩ := by
            intro b o h1 h2
            have h3 : ¬ w.heap.size + 1 = b := fun e => h1 e.symm
            have h4 : ¬ b = w2.heap.size := by omega
            have h5 : ¬ b = w2.heap.size + 1 := by omega
            have h6 : b < w2.heap.size + 1 := by omega
            go_simp
          exact bodyPost_ret (v := .agg #[.string op, .int .i64 0, .int .i64 0, .string nilB, .slice (some ⟨w2.heap.size + 1, 0, none⟩) 2 2]) (by simp [results, Try.results47, go_sem, q0, q1, q2, q3, q4, njd2, njd3, z8, z10]) rfl ⟨_, rfl, (by with_reducible repeat (first | exact Ext.refl _ | assumption | apply Ext.drewN | apply Ext.drew | apply Ext.alloc | (refine Ext.setCell ?_ (by simp <;> omega) _) | (refine Ext.trans ?_ (by assumption)))), by rw [HT.out]; exact fold_done h2a h2b (HR1.out.ext h12) (HR2.out.ext h12) ((h12.cells.1 _ _ lj).trans x5) far (hS _ (by omega)) (block_new (by simp)), .inr ⟨_, _, _, _, _, rfl, _, block_new (by simp), rfl⟩⟩

theorem folded_top (T S : Nat → Prop) : ∀ (d : Nat) (t : Ex) (_ : t.depth ≤ d) (_ : formedB t = true) (w : World) (v : Value) (_ : Rd T w t v) (_ : ∀ b, w.heap.size ≤ b → S b),
    Calls Try.prog 47 #[v] w fun e w' => ∃ v', e = .returned v' ∧ Ext w w' ∧ Rd S w' (foldE t) v' ∧ TopOwn w' v'
  | 0, .mk op n nm ts, hd, _, _, _, _, _ => by rw [Ex.depth] at hd; omega
  | d + 1, .mk op n nm ts, hd, hf, w, v, hv, hS => by
    have leafc : ts = [] → Calls Try.prog 47 #[v] w fun e w' => ∃ v', e = .returned v' ∧ Ext w w' ∧ Rd S w' (foldE (.mk op n nm ts)) v' ∧ TopOwn w' v' := by
      rintro rfl
      rw [foldE, foldL]
      unfold Rd at hv
      obtain ⟨base, cap, rfl, hn, -, -⟩ := hv
      refine (fold_leaf op n nm base cap w).mono ?_
      rintro e w' ⟨rfl, hx⟩
      refine ⟨_, rfl, hx, ?_, .inl ⟨_, _, _, _, _, _, rfl⟩⟩
      unfold Rd
      exact ⟨base, cap, rfl, hn, by simp, .inl rfl⟩
    rw [formedB] at hf
    cases h0 : (op.toList == [110, 117, 109])
    · rw [h0] at hf
      cases h : (op.toList == [110, 97, 109, 101])
      · rw [h] at hf
        simp only [Bool.false_eq_true, if_false] at hf
        simp only [Bool.and_eq_true, Bool.not_eq_true', beq_eq_false_iff_ne, ne_eq, beq_iff_eq] at hf
        obtain ⟨hi, h2, -, -, hl⟩ := hf
        match ts, h2, hl, hd, hv with
        | [ta, tb], _, hl, hd, hv =>
          rw [Ex.depth, Ex.depthL, Ex.depthL, Ex.depthL] at hd
          simp only [formedL, Bool.and_eq_true, Bool.and_true] at hl
          rw [foldE, foldL, foldL, foldL]
          exact fold_op2 T S op n nm ta tb hi w v hv hS _ _ (fold_two d ta (by omega) hl.1) (fold_two d tb (by omega) hl.2)
            (fun w' v hv hw => folded_any T S d ta (by omega) hl.1 w' v hv (fun b hb => hS b (by omega)))
            (fun w' v hv hw => folded_any T S d tb (by omega) hl.2 w' v hv (fun b hb => hS b (by omega)))
      · rw [h] at hf
        simp only [Bool.false_eq_true, if_false, if_true, Bool.and_eq_true, beq_iff_eq] at hf
        exact leafc (List.eq_nil_of_length_eq_zero hf.1)
    · rw [h0] at hf
      simp only [if_true, Bool.and_eq_true, beq_iff_eq] at hf
      exact leafc (List.eq_nil_of_length_eq_zero hf.1)

set_option maxRecDepth 100000 in
set_option maxHeartbeats 1000000 in
theorem simplify_top (T S : Nat → Prop) (t : Ex) (h : wrongI t = 0) (w : World) (v : Value) (hv : Rd T w t v) (hS : ∀ b, w.heap.size ≤ b → S b) :
    Calls Try.prog 19 #[v] w fun e w' => ∃ v', e = .returned v' ∧ Ext w w' ∧ Rd S w' (simpE t) v' ∧ TopOwn w' v' := by
  have HW := Lib.hid (fun w' (hw : Ext w w') => wrong_any T t w' v (Rd.ext hw hv))
  have hsh : ∃ op n1 n2 nm base len cap, v = .agg #[.string op, .int .i64 n1, .int .i64 n2, .string nm, .slice base len cap] := by
    obtain ⟨op, n, nm, ts⟩ := t
    unfold Rd at hv
    obtain ⟨base, cap, hv, -⟩ := hv
    exact ⟨_, _, _, _, _, _, _, hv⟩
  obtain ⟨op, n1, n2, nm, base, len, cap, rfl⟩ := hsh
  · have HE := Lib.hid (show simpE t = foldE t from if_pos h)
    have hd := wrong_zero h
    have HF := Lib.hid (fun w' (hw : Ext w w') => folded_top T S 12 t hd.2.1 hd.2.2 w' _ (Rd.ext hw hv) (fun b hb => hS b (Nat.le_trans hw.size hb)))
    have h2 := Lib.hid (fold_two 12 t hd.2.1 hd.2.2)
    rw [h] at HW
    clear h hd hv
    go_enter Try.func19, Try.ntmps19
    go_wp2_with (first
      | (go_at_call 43; (with_reducible refine (HW.out _ (by with_reducible repeat (first | exact Ext.refl _ | assumption | apply Ext.drewN | apply Ext.drew | apply Ext.alloc | (refine Ext.setCell ?_ (by simp <;> omega) _) | (refine Ext.trans ?_ (by assumption))))).mono ?_); rintro e w1 ⟨rfl, hb⟩; obtain ⟨hc, hf⟩ := hb.cells; have hz := hb.size; simp at hz; have z1 : w.heap.size < w1.heap.size := (by omega); have z2 : w.heap.size + 1 < w1.heap.size := (by omega))
      | (go_at_call 47; (with_reducible refine (HF.out _ (by with_reducible repeat (first | exact Ext.refl _ | assumption | apply Ext.drewN | apply Ext.drew | apply Ext.alloc | (refine Ext.setCell ?_ (by simp <;> omega) _) | (refine Ext.trans ?_ (by assumption))))).mono ?_); rintro e w2 ⟨v2, rfl, hb2, hr, hto⟩; have HTO := Lib.hid hto; clear hto; obtain ⟨hc2, hf2⟩ := hb2.cells; obtain ⟨q0, q1, q2, q3, q4, q5, q6, rfl⟩ := hr.form; have HR := Lib.hid hr; clear hr))
    have n1 : ¬ w.heap.size + 1 = w.heap.size := by omega
    have v0 : w2.cell? ⟨w.heap.size + 1, 0, none⟩ = some (.string ⟨#[]⟩) := by go_simp
    have v1 : w2.cell? ⟨w.heap.size + 1, 1, none⟩ = some (.int .i64 0) := by go_simp
    have v2 : w2.cell? ⟨w.heap.size + 1, 2, none⟩ = some (.int .i64 0) := by go_simp
    have v3 : w2.cell? ⟨w.heap.size + 1, 3, none⟩ = some (.string ⟨#[]⟩) := by go_simp
    have v4 : w2.cell? ⟨w.heap.size + 1, 4, none⟩ = some (.slice none 0 0) := by go_simp
    have v5 : w2.cell? ⟨w.heap.size + 1, 5, none⟩ = none := by go_simp
    have far : ∀ b o, ¬ b = w.heap.size + 1 → b < w2.heap.size → (((((w2.setCell ⟨w.heap.size + 1, 0, none⟩ (.string q0)).setCell ⟨w.heap.size + 1, 1, none⟩ (.int .i64 q1)).setCell ⟨w.heap.size + 1, 2, none⟩ (.int .i64 q2)).setCell ⟨w.heap.size + 1, 3, none⟩ (.string q3)).setCell ⟨w.heap.size + 1, 4, none⟩ (.slice q4 q5 q6)).cell? ⟨b, o, none⟩ = w2.cell? ⟨b, o, none⟩ := by
      intro b o h1 h2
      have h3 : ¬ w.heap.size + 1 = b := fun e => h1 e.symm
      go_simp
    exact bodyPost_ret (v := .agg #[.string q0, .int .i64 q1, .int .i64 q2, .string q3, .slice q4 q5 q6]) (by simp [results, Try.results19, go_sem, v0, v1, v2, v3, v4]) rfl ⟨_, rfl, (by with_reducible repeat (first | exact Ext.refl _ | assumption | apply Ext.drewN | apply Ext.drew | apply Ext.alloc | (refine Ext.setCell ?_ (by simp <;> omega) _) | (refine Ext.trans ?_ (by assumption)))), by rw [HE.out]; exact Rd.past h2.out HR.out v5 far, top_past HTO.out v5⟩
end Go.Proofs.Ytgkdeknfmmgbdaa
