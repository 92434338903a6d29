/-
  The reference's fold and Simplify. Conditions: the value stands for a tree of at most 100000 parts.
-/
import Derived.Test.YtgkdeknfmmgbdaaSiP
import Derived.Test.YtgkdeknfmmgbdaaJnI
namespace Go.Proofs.Ytgkdeknfmmgbdaa
set_option linter.unusedVariables false
set_option linter.unusedSimpArgs false
open Go.RowKit

set_option maxRecDepth 100000 in
set_option maxHeartbeats 1000000 in
theorem rfold_leaf (op : ByteArray) (n : Int × Int) (nm : ByteArray) (base : Option Addr) (cap : Nat) (w : World) :
    Calls Try.prog 48 #[.agg #[.string op, .int .i64 n.1, .int .i64 n.2, .string nm, .slice base 0 cap]] w fun e w' => e = .returned (.agg #[.string op, .int .i64 n.1, .int .i64 n.2, .string nm, .slice base 0 cap]) ∧ Ext w w' := by
  go_enter Try.func48, Try.ntmps48
  go_wp2
  exact bodyPost_ret (v := .agg #[.string op, .int .i64 n.1, .int .i64 n.2, .string nm, .slice base 0 cap]) (by simp [results, Try.results48, go_sem]) rfl ⟨rfl, (by with_reducible repeat (first | exact Ext.refl _ | assumption | apply Ext.drewN | apply Ext.drew | apply Ext.alloc | (refine Ext.setCell ?_ (by simp <;> omega) _) | (refine Ext.trans ?_ (by assumption))))⟩

/-- The new formula, its answer in the block p2. -/
theorem fold_two_fin {w W : World} {p2 : Nat} {op of mf og mg : ByteArray} {nf1 nf2 ng1 ng2 : Int} {tf tg : List Ex} {bf bg : Option Addr} {cf cg : Nat} (h2a : twoB (.mk of (nf1, nf2) mf tf) = true) (h2b : twoB (.mk og (ng1, ng2) mg tg) = true) (hx : Ext w W) (hp2 : w.heap.size ≤ p2)
    (h2 : W.heap[p2]? = some (.cells #[.string ⟨#[]⟩, .int .i64 0, .int .i64 0, .string ⟨#[]⟩, .slice none 0 0] 29))
    (r1 : Rd All W (.mk of (nf1, nf2) mf tf) (.agg #[.string of, .int .i64 nf1, .int .i64 nf2, .string mf, .slice bf tf.length cf])) (r2 : Rd All W (.mk og (ng1, ng2) mg tg) (.agg #[.string og, .int .i64 ng1, .int .i64 ng2, .string mg, .slice bg tg.length cg])) :
    Ext w ((((((W.setCell ⟨p2, 0, none⟩ (.string op)).setCell ⟨p2, 1, none⟩ (.int .i64 0)).setCell ⟨p2, 2, none⟩ (.int .i64 0)).setCell ⟨p2, 3, none⟩ (.string ⟨#[]⟩)).setCell ⟨p2, 4, none⟩ (.slice (some ⟨W.heap.size, 0, none⟩) 2 2)).alloc (.cells #[.string of, .int .i64 nf1, .int .i64 nf2, .string mf, .slice bf tf.length cf, .string og, .int .i64 ng1, .int .i64 ng2, .string mg, .slice bg tg.length cg] 29)) ∧
    Rd All ((((((W.setCell ⟨p2, 0, none⟩ (.string op)).setCell ⟨p2, 1, none⟩ (.int .i64 0)).setCell ⟨p2, 2, none⟩ (.int .i64 0)).setCell ⟨p2, 3, none⟩ (.string ⟨#[]⟩)).setCell ⟨p2, 4, none⟩ (.slice (some ⟨W.heap.size, 0, none⟩) 2 2)).alloc (.cells #[.string of, .int .i64 nf1, .int .i64 nf2, .string mf, .slice bf tf.length cf, .string og, .int .i64 ng1, .int .i64 ng2, .string mg, .slice bg tg.length cg] 29))
      (.mk op (0, 0) nilB [.mk of (nf1, nf2) mf tf, .mk og (ng1, ng2) mg tg]) (.agg #[.string op, .int .i64 0, .int .i64 0, .string nilB, .slice (some ⟨W.heap.size, 0, none⟩) 2 2]) := by
  refine ⟨Ext.alloc (Ext.setCell (Ext.setCell (Ext.setCell (Ext.setCell (Ext.setCell hx hp2 _) hp2 _) hp2 _) hp2 _) hp2 _) _, ?_⟩
  refine fold_done h2a h2b r1 r2 (r := p2) (by rw [(Rg.cells_of h2).1]; rfl) (fun b o h1 h3 => ?_) trivial (block_new (by simp))
  refine World.cell?_of_block ?_
  rw [Below.heap_alloc _ _ _ (by simpa using h3)]
  exact (heap_setCell_other _ _ _ _ h1).trans ((heap_setCell_other _ _ _ _ h1).trans ((heap_setCell_other _ _ _ _ h1).trans ((heap_setCell_other _ _ _ _ h1).trans (heap_setCell_other _ _ _ _ h1))))
set_option maxRecDepth 100000 in
set_option maxHeartbeats 4000000 in
theorem rfold_op (op : ByteArray) (n : Int × Int) (nm : ByteArray) (ta tb : Ex) (i : Nat) (hi6 : i < 6) (hop : opIx op = (i : Int))
    (w : World) (v : Value) (hv : Rd All w (.mk op n nm [ta, tb]) v) (fa fb : Ex) (h2a : twoB fa = true) (h2b : twoB fb = true) (hfa : formedB fa = true) (hfb : formedB fb = true)
    (iha : ∀ (w' : World) (v : Value), Rd All w' ta v → Calls Try.prog 48 #[v] w' fun e w'' => ∃ v', e = .returned v' ∧ Ext w' w'' ∧ Rd All w'' fa v')
    (ihb : ∀ (w' : World) (v : Value), Rd All w' tb v → Calls Try.prog 48 #[v] w' fun e w'' => ∃ v', e = .returned v' ∧ Ext w' w'' ∧ Rd All w'' fb v') :
    Calls Try.prog 48 #[v] w fun e w' => ∃ v', e = .returned v' ∧ Ext w w' ∧ Rd All w' (foldTwo op fa fb) v' := by
  unfold Rd at hv
  obtain ⟨base, cap, rfl, -, -, hr⟩ := hv
  rcases hr with hr | ⟨b, rfl, -, hl⟩
  · cases hr
  obtain ⟨c, hc, hra⟩ := hl.get 0 (by simp)
  obtain ⟨d, hd, hrb⟩ := hl.get 1 (by simp)
  obtain ⟨oa, a1, a2, na, ba, la, ca, c0, c1, c2, c3, c4, ea⟩ := hra.shape
  obtain ⟨ob, b1, b2, nb, bb, lb, cb, d0, d1, d2, d3, d4, eb⟩ := hrb.shape
  simp only [List.getElem_cons_zero, List.getElem_cons_succ] at hra hrb
  rw [ea] at hra
  rw [eb] at hrb
  have hbl : b < w.heap.size := World.block_lt_of_cell? w _ (hc 0 (by decide))
  have k0 := (hc 0 (by decide)).trans (congrArg some c0)
  have k1 := (hc 1 (by decide)).trans (congrArg some c1)
  have k2 := (hc 2 (by decide)).trans (congrArg some c2)
  have k3 := (hc 3 (by decide)).trans (congrArg some c3)
  have k4 := (hc 4 (by decide)).trans (congrArg some c4)
  have k5 := (hd 0 (by decide)).trans (congrArg some d0)
  have k6 := (hd 1 (by decide)).trans (congrArg some d1)
  have k7 := (hd 2 (by decide)).trans (congrArg some d2)
  have k8 := (hd 3 (by decide)).trans (congrArg some d3)
  have k9 := (hd 4 (by decide)).trans (congrArg some d4)
  simp only [Nat.zero_add, Nat.zero_mul, Nat.add_zero, Nat.one_mul, Nat.reduceAdd] at k0 k1 k2 k3 k4 k5 k6 k7 k8 k9
  have IA := Lib.hid (fun w' (hw : Ext w w') => iha w' _ (Rd.ext hw hra))
  have IB := Lib.hid (fun w' (hw : Ext w w') => ihb w' _ (Rd.ext hw hrb))
  obtain ⟨n1, n2⟩ := n
  obtain ⟨of, ⟨nf1, nf2⟩, mf, tf⟩ := fa
  obtain ⟨og, ⟨ng1, ng2⟩, mg, tg⟩ := fb
  obtain ⟨W1, hW1⟩ : ∃ W1, W1 = (w.alloc (.cells #[.string op, .int .i64 n1, .int .i64 n2, .string nm, .slice (some ⟨b, 0, none⟩) 2 cap] 29)).alloc (.cells #[.string ⟨#[]⟩, .int .i64 0, .int .i64 0, .string ⟨#[]⟩, .slice none 0 0] 29) := ⟨_, rfl⟩
  have hx1 : Ext w W1 := by rw [hW1]; exact Ext.alloc (Ext.alloc (Ext.refl _) _) _
  have j2 : W1.heap[w.heap.size]? = some (.cells #[.string op, .int .i64 n1, .int .i64 n2, .string nm, .slice (some ⟨b, 0, none⟩) 2 cap] 29) := by rw [hW1, Below.heap_alloc _ _ _ (by simp)]; exact block_new rfl
  have j3 : W1.heap[w.heap.size + 1]? = some (.cells #[.string ⟨#[]⟩, .int .i64 0, .int .i64 0, .string ⟨#[]⟩, .slice none 0 0] 29) := by rw [hW1]; exact block_new (by simp)
  have HD : Hid (∀ W, Ext W1 W → b < W.heap.size ∧ (W.cell? ⟨b, 0, none⟩ = some (.string oa) ∧ W.cell? ⟨b, 1, none⟩ = some (.int .i64 a1) ∧ W.cell? ⟨b, 2, none⟩ = some (.int .i64 a2) ∧ W.cell? ⟨b, 3, none⟩ = some (.string na) ∧ W.cell? ⟨b, 4, none⟩ = some (.slice ba la ca)) ∧ (W.cell? ⟨b, 5, none⟩ = some (.string ob) ∧ W.cell? ⟨b, 6, none⟩ = some (.int .i64 b1) ∧ W.cell? ⟨b, 7, none⟩ = some (.int .i64 b2) ∧ W.cell? ⟨b, 8, none⟩ = some (.string nb) ∧ W.cell? ⟨b, 9, none⟩ = some (.slice bb lb cb))) := Lib.hid fun W hW => by
    have hw := (hx1.trans hW).cells.1
    exact ⟨Nat.lt_of_lt_of_le hbl (hx1.trans hW).size, ⟨(hw _ _ hbl).trans k0, (hw _ _ hbl).trans k1, (hw _ _ hbl).trans k2, (hw _ _ hbl).trans k3, (hw _ _ hbl).trans k4⟩, (hw _ _ hbl).trans k5, (hw _ _ hbl).trans k6, (hw _ _ hbl).trans k7, (hw _ _ hbl).trans k8, (hw _ _ hbl).trans k9⟩
  have HX1 := Lib.hid hx1
  have HF0 := Lib.hid (show formedB _ = true ∧ formedB _ = true from ⟨hfa, hfb⟩)
  have HTB := Lib.hid (show twoB _ = true ∧ twoB _ = true from ⟨h2a, h2b⟩)
  have HOP := Lib.hid hop
  clear hc hd c0 c1 c2 c3 c4 d0 d1 d2 d3 d4 ea eb hra hrb hl iha ihb hx1 k0 k1 k2 k3 k4 k5 k6 k7 k8 k9 hbl hfa hfb h2a h2b hop
  go_enter Try.func48, Try.ntmps48
  go_upto_region 1 with (fail)
  rw [← hW1]
  clear hW1
  obtain ⟨p1, hp1⟩ : ∃ p, p = w.heap.size := ⟨_, rfl⟩
  obtain ⟨p2, hp2⟩ : ∃ p, p = w.heap.size + 1 := ⟨_, rfl⟩
  have HP2 := Lib.hid (show w.heap.size ≤ p2 by omega)
  rw [← hp2] at j3 ⊢
  rw [← hp1] at j2 ⊢
  clear hp1 hp2
  have J2 := Lib.hid j2; have J3 := Lib.hid j3
  clear j2 j3
  have HC : Hid (∀ W, Ext W1 W → W.cell? ⟨p1, 0, none⟩ = some (.string op) ∧ W.cell? ⟨p1, 4, none⟩ = some (.slice (some ⟨b, 0, none⟩) 2 cap) ∧ p1 < W.heap.size) := Lib.hid fun W hW => by
    obtain ⟨c, f, l⟩ := Rg.cells_of ((hW.block _ (Rg.lt_of_heap J2.out)).trans J2.out)
    exact ⟨c 0, c 4, l⟩
  obtain ⟨y0, y4, yl⟩ := HC.out W1 (Ext.refl _)
  obtain ⟨bl, ⟨k0, k1, k2, k3, k4⟩, -⟩ := HD.out W1 (Ext.refl _)
  go_upto_region 4 with (go_at_call 48; (with_reducible refine (IA.out _ HX1.out).mono ?_); rintro e w2 ⟨u2, rfl, hx2, hr2⟩; have hr2' := hr2; unfold Rd at hr2'; obtain ⟨bf, cf, hform, -⟩ := hr2'; subst hform)
  have h3 : (w2.alloc (.cells #[.string of, .int .i64 nf1, .int .i64 nf2, .string mf, .slice bf tf.length cf] 29)).heap[w2.heap.size]? = some (.cells #[.string of, .int .i64 nf1, .int .i64 nf2, .string mf, .slice bf tf.length cf] 29) := block_new rfl
  have HX2 := Lib.hid (Ext.alloc hx2 (.cells #[.string of, .int .i64 nf1, .int .i64 nf2, .string mf, .slice bf tf.length cf] 29))
  have HR2 := Lib.hid (hr2.ext (Ext.alloc (Ext.refl w2) (.cells #[.string of, .int .i64 nf1, .int .i64 nf2, .string mf, .slice bf tf.length cf] 29)))
  have H3 := Lib.hid h3
  clear hx2 hr2 h3 y0 y4 yl bl k0 k1 k2 k3 k4 IA
  generalize w2.alloc (.cells #[.string of, .int .i64 nf1, .int .i64 nf2, .string mf, .slice bf tf.length cf] 29) = W2 at *
  generalize w2.heap.size = p3 at *
  obtain ⟨y0, y4, yl⟩ := HC.out W2 HX2.out
  obtain ⟨bl, -, ⟨k0, k1, k2, k3, k4⟩⟩ := HD.out W2 HX2.out
  go_upto_region 5 with (go_at_call 48; (with_reducible refine (IB.out _ (HX1.out.trans HX2.out)).mono ?_); rintro e w3 ⟨u3, rfl, hx3, hr3⟩; have hr3' := hr3; unfold Rd at hr3'; obtain ⟨bg, cg, hform, -⟩ := hr3'; subst hform)
  have h4 : (w3.alloc (.cells #[.string og, .int .i64 ng1, .int .i64 ng2, .string mg, .slice bg tg.length cg] 29)).heap[w3.heap.size]? = some (.cells #[.string og, .int .i64 ng1, .int .i64 ng2, .string mg, .slice bg tg.length cg] 29) := block_new rfl
  have hx34 := Ext.alloc hx3 (.cells #[.string og, .int .i64 ng1, .int .i64 ng2, .string mg, .slice bg tg.length cg] 29)
  have HX3 := Lib.hid (HX2.out.trans hx34)
  have HR3 := Lib.hid (hr3.ext (Ext.alloc (Ext.refl w3) (.cells #[.string og, .int .i64 ng1, .int .i64 ng2, .string mg, .slice bg tg.length cg] 29)))
  have HR23 := Lib.hid (HR2.out.ext hx34)
  have H33 := Lib.hid ((hx34.block _ (Rg.lt_of_heap H3.out)).trans H3.out)
  have H4 := Lib.hid h4
  clear hx3 hr3 h4 y0 y4 yl bl k0 k1 k2 k3 k4 IB hx34 HR2 H3
  generalize w3.alloc (.cells #[.string og, .int .i64 ng1, .int .i64 ng2, .string mg, .slice bg tg.length cg] 29) = W3 at *
  generalize w3.heap.size = p4 at *
  have HP3 := Lib.hid ((HX3.out.block _ (Rg.lt_of_heap J3.out)).trans J3.out)
  skip
  obtain ⟨y0, -, yl⟩ := HC.out W3 HX3.out
  obtain ⟨c3, -, l3⟩ := Rg.cells_of H33.out
  obtain ⟨c4, -, l4⟩ := Rg.cells_of H4.out
  obtain ⟨c2, f2, l2⟩ := Rg.cells_of HP3.out
  have x0 : W3.cell? ⟨p3, 0, none⟩ = some (.string of) := c3 0
  have x1 : W3.cell? ⟨p3, 1, none⟩ = some (.int .i64 nf1) := c3 1
  have x2 : W3.cell? ⟨p3, 2, none⟩ = some (.int .i64 nf2) := c3 2
  have x3 : W3.cell? ⟨p3, 3, none⟩ = some (.string mf) := c3 3
  have x4 : W3.cell? ⟨p3, 4, none⟩ = some (.slice bf tf.length cf) := c3 4
  have z0 : W3.cell? ⟨p4, 0, none⟩ = some (.string og) := c4 0
  have z1 : W3.cell? ⟨p4, 1, none⟩ = some (.int .i64 ng1) := c4 1
  have z2 : W3.cell? ⟨p4, 2, none⟩ = some (.int .i64 ng2) := c4 2
  have z3 : W3.cell? ⟨p4, 3, none⟩ = some (.string mg) := c4 3
  have z4 : W3.cell? ⟨p4, 4, none⟩ = some (.slice bg tg.length cg) := c4 4
  clear c3 c4
  cases ha : (of.toList == [110, 117, 109])
  · have HT := Lib.hid (show foldTwo op (.mk of (nf1, nf2) mf tf) (.mk og (ng1, ng2) mg tg) = .mk op (0, 0) nilB [.mk of (nf1, nf2) mf tf, .mk og (ng1, ng2) mg tg] from by simp [foldTwo, Ex.op, ha])
    have HFIN := Lib.hid (fold_two_fin (op := op) HTB.out.1 HTB.out.2 (HX1.out.trans HX3.out) HP2.out HP3.out HR23.out HR3.out)
    have njd : ¬ p2 = W3.heap.size := by omega
    go_wp2_with (fail)
    exact bodyPost_ret (v := .agg #[.string op, .int .i64 0, .int .i64 0, .string nilB, .slice (some ⟨W3.heap.size, 0, none⟩) 2 2]) (by simp [results, Try.results48, go_sem, c2, l2, njd]) rfl ⟨_, rfl, HFIN.out.1, by rw [HT.out]; exact HFIN.out.2⟩
  · cases hb : (og.toList == [110, 117, 109])
    · have HT := Lib.hid (show foldTwo op (.mk of (nf1, nf2) mf tf) (.mk og (ng1, ng2) mg tg) = .mk op (0, 0) nilB [.mk of (nf1, nf2) mf tf, .mk og (ng1, ng2) mg tg] from by simp [foldTwo, Ex.op, ha, hb])
      have HFIN := Lib.hid (fold_two_fin (op := op) HTB.out.1 HTB.out.2 (HX1.out.trans HX3.out) HP2.out HP3.out HR23.out HR3.out)
      have njd : ¬ p2 = W3.heap.size := by omega
      go_wp2_with (fail)
      exact bodyPost_ret (v := .agg #[.string op, .int .i64 0, .int .i64 0, .string nilB, .slice (some ⟨W3.heap.size, 0, none⟩) 2 2]) (by simp [results, Try.results48, go_sem, c2, l2, njd]) rfl ⟨_, rfl, HFIN.out.1, by rw [HT.out]; exact HFIN.out.2⟩
    · have hn1 : I2 (nf1, nf2) := by have h := HR23.out; unfold Rd at h; obtain ⟨_, _, _, h, -⟩ := h; exact h
      have hn2 : I2 (ng1, ng2) := by have h := HR3.out; unfold Rd at h; obtain ⟨_, _, _, h, -⟩ := h; exact h
      have hR1 : RiR (nf1, nf2) := ⟨⟨hn1.n1, hn1.n2, hn1.d1, hn1.d2⟩, formed_isnum (t := .mk of (nf1, nf2) mf tf) ha HF0.out.1⟩
      have hR2 : RiR (ng1, ng2) := ⟨⟨hn2.n1, hn2.n2, hn2.d1, hn2.d2⟩, formed_isnum (t := .mk og (ng1, ng2) mg tg) hb HF0.out.2⟩
      obtain rfl := opIx_eq HOP.out
      have HAP := Lib.hid (fun W => rApply_any i hi6 (nf1, nf2) (ng1, ng2) hR1 hR2 W)
      have hI := applyI_I2 i (nf1, nf2) (ng1, ng2) hn1 hn2
      have hT : foldTwo (opNm i) (.mk of (nf1, nf2) mf tf) (.mk og (ng1, ng2) mg tg) = (if (applyI i (nf1, nf2) (ng1, ng2)).2 = 0 then numE (applyI i (nf1, nf2) (ng1, ng2)).1 else .mk (opNm i) (0, 0) nilB [.mk of (nf1, nf2) mf tf, .mk og (ng1, ng2) mg tg]) := by
        unfold foldTwo
        rw [if_pos (by simp [Ex.op, ha, hb]), HOP.out]
        rfl
      generalize applyI i (nf1, nf2) (ng1, ng2) = r at *
      obtain ⟨⟨u1, u2⟩, rf⟩ := r
      have HTT := Lib.hid hT; have HI := Lib.hid hI
      clear hT hn1 hn2 hR1 hR2 hI
      by_cases hrf : rf = 0
      · subst hrf
        have HT := Lib.hid (HTT.out.trans (if_pos rfl))
        go_wp2_with (go_at_call 75; (with_reducible refine (HAP.out _).mono ?_); rintro e w5 ⟨rfl, hx5⟩; clear c2 f2 l2; obtain ⟨c2, f2, l2⟩ := Rg.cells_of ((hx5.block _ (Rg.lt_of_heap HP3.out)).trans HP3.out))
        have njd : ¬ p2 = w5.heap.size := by omega
        have hp2 := HP2.out
        have hxx := HX1.out.trans (HX3.out.trans hx5)
        exact bodyPost_ret (v := leafV numB (u1, u2) nilB) (by simp [results, Try.results48, go_sem, c2, l2, njd]) rfl ⟨_, rfl, (by with_reducible repeat (first | exact Ext.refl _ | assumption | apply Ext.drewN | apply Ext.drew | apply Ext.alloc | (refine Ext.setCell ?_ (by simp <;> omega) _) | (refine Ext.trans ?_ (by assumption)))), by rw [HT.out]; exact Rd.leaf HI.out⟩
      · have HT := Lib.hid (HTT.out.trans (if_neg hrf))
        have hrb : (rf == 0) = false := by rw [beq_eq_false_iff_ne]; exact hrf
        clear hrf
        go_upto_region 7 with (go_at_call 75; (with_reducible refine (HAP.out _).mono ?_); rintro e w5 ⟨rfl, hx5⟩)
        have hx35 := hx5.trans (Ext.alloc (Ext.refl w5) (.cells #[.int .i64 u1, .int .i64 u2] 26))
        clear y0 yl x0 x1 x2 x3 x4 z0 z1 z2 z3 z4 l3 l4 c2 f2 l2 hx5
        try change Code.wp _ _ _ _ (w5.alloc (.cells #[.int .i64 u1, .int .i64 u2] 26))
        generalize w5.alloc (.cells #[.int .i64 u1, .int .i64 u2] 26) = W5 at *
        have h35 := (hx35.block _ (Rg.lt_of_heap H33.out)).trans H33.out
        have h45 := (hx35.block _ (Rg.lt_of_heap H4.out)).trans H4.out
        have h25 := (hx35.block _ (Rg.lt_of_heap HP3.out)).trans HP3.out
        obtain ⟨y0, -, yl⟩ := HC.out W5 (HX3.out.trans hx35)
        obtain ⟨c3, -, l3⟩ := Rg.cells_of h35
        obtain ⟨c4, -, l4⟩ := Rg.cells_of h45
        obtain ⟨c2, f2, l2⟩ := Rg.cells_of h25
        have x0 : W5.cell? ⟨p3, 0, none⟩ = some (.string of) := c3 0
        have x1 : W5.cell? ⟨p3, 1, none⟩ = some (.int .i64 nf1) := c3 1
        have x2 : W5.cell? ⟨p3, 2, none⟩ = some (.int .i64 nf2) := c3 2
        have x3 : W5.cell? ⟨p3, 3, none⟩ = some (.string mf) := c3 3
        have x4 : W5.cell? ⟨p3, 4, none⟩ = some (.slice bf tf.length cf) := c3 4
        have z0 : W5.cell? ⟨p4, 0, none⟩ = some (.string og) := c4 0
        have z1 : W5.cell? ⟨p4, 1, none⟩ = some (.int .i64 ng1) := c4 1
        have z2 : W5.cell? ⟨p4, 2, none⟩ = some (.int .i64 ng2) := c4 2
        have z3 : W5.cell? ⟨p4, 3, none⟩ = some (.string mg) := c4 3
        have z4 : W5.cell? ⟨p4, 4, none⟩ = some (.slice bg tg.length cg) := c4 4
        have HFIN := Lib.hid (fold_two_fin (op := opNm i) HTB.out.1 HTB.out.2 (HX1.out.trans (HX3.out.trans hx35)) HP2.out h25 (HR23.out.ext hx35) (HR3.out.ext hx35))
        have njd : ¬ p2 = W5.heap.size := by omega
        clear c3 c4 h35 h45 h25 hx35
        go_wp2_with (fail)
        exact bodyPost_ret (v := .agg #[.string (opNm i), .int .i64 0, .int .i64 0, .string nilB, .slice (some ⟨W5.heap.size, 0, none⟩) 2 2]) (by simp [results, Try.results48, go_sem, c2, l2, njd]) rfl ⟨_, rfl, HFIN.out.1, by rw [HT.out]; exact HFIN.out.2⟩

theorem rfold_any : ∀ (d : Nat) (t : Ex) (_ : t.depth ≤ d) (_ : formedB t = true) (w : World) (v : Value) (_ : Rd All w t v),
    Calls Try.prog 48 #[v] w fun e w' => ∃ v', e = .returned v' ∧ Ext w w' ∧ Rd All w' (foldE t) v'
  | 0, .mk op n nm ts, hd, _, _, _, _ => by rw [Ex.depth] at hd; omega
  | d + 1, .mk op n nm ts, hd, hf, w, v, hv => by
    have leafc : ts = [] → Calls Try.prog 48 #[v] w fun e w' => ∃ v', e = .returned v' ∧ Ext w w' ∧ Rd All w' (foldE (.mk op n nm ts)) v' := by
      rintro rfl
      rw [foldE, foldL]
      unfold Rd at hv
      obtain ⟨base, cap, rfl, hn, -, -⟩ := hv
      refine (rfold_leaf op n nm base cap w).mono ?_
      rintro e w' ⟨rfl, hx⟩
      refine ⟨_, rfl, hx, ?_⟩
      unfold Rd
      exact ⟨base, cap, rfl, hn, by simp, .inl rfl⟩
    rw [formedB] at hf
    cases h0 : (op.toList == [110, 117, 109])
    · rw [h0] at hf
      cases h : (op.toList == [110, 97, 109, 101])
      · rw [h] at hf
        simp only [Bool.false_eq_true, if_false] at hf
        simp only [Bool.and_eq_true, Bool.not_eq_true', beq_eq_false_iff_ne, ne_eq, beq_iff_eq] at hf
        obtain ⟨hi, h2, -, -, hl⟩ := hf
        match ts, h2, hl, hd, hv with
        | [ta, tb], _, hl, hd, hv =>
          rw [Ex.depth, Ex.depthL, Ex.depthL, Ex.depthL] at hd
          simp only [formedL, Bool.and_eq_true, Bool.and_true] at hl
          rw [foldE, foldL, foldL, foldL]
          obtain ⟨i, hi6, hop⟩ : ∃ i : Nat, i < 6 ∧ opIx op = (i : Int) := ⟨(opIx op).toNat, by have := opIx_bd op; omega, by have := opIx_bd op; omega⟩
          exact rfold_op op n nm ta tb i hi6 hop w v hv _ _ (fold_two d ta (by omega) hl.1) (fold_two d tb (by omega) hl.2) (fold_laws d ta (by omega) hl.1).1 (fold_laws d tb (by omega) hl.2).1
            (fun w' v hv => rfold_any d ta (by omega) hl.1 w' v hv)
            (fun w' v hv => rfold_any d tb (by omega) hl.2 w' v hv)
      · rw [h] at hf
        simp only [Bool.false_eq_true, if_false, if_true, Bool.and_eq_true, beq_iff_eq] at hf
        exact leafc (List.eq_nil_of_length_eq_zero hf.1)
    · rw [h0] at hf
      simp only [if_true, Bool.and_eq_true, beq_iff_eq] at hf
      exact leafc (List.eq_nil_of_length_eq_zero hf.1)

set_option maxRecDepth 100000 in
set_option maxHeartbeats 2000000 in
theorem rsimp_any (t : Ex) (hp : t.parts ≤ 100000) (w : World) (v : Value) (hv : Rd All w t v) : Calls Try.prog 21 #[v] w fun e w' => ∃ v', e = .returned v' ∧ Ext w w' ∧ Rd All w' (simpE t) v' := by
  have HW := Lib.hid (fun W (hW : Ext w W) => rwrong_any t hp W v (hv.ext hW))
  have HV := Lib.hid hv
  obtain ⟨op, n1, n2, nm, base, len, cap, hform⟩ := hv.form
  obtain ⟨W1, hW1⟩ : ∃ W1, W1 = (w.alloc (.cells #[.string op, .int .i64 n1, .int .i64 n2, .string nm, .slice base len cap] 29)).alloc (.cells #[.string ⟨#[]⟩, .int .i64 0, .int .i64 0, .string ⟨#[]⟩, .slice none 0 0] 29) := ⟨_, rfl⟩
  have hx1 : Ext w W1 := by rw [hW1]; exact Ext.alloc (Ext.alloc (Ext.refl _) _) _
  have j1 : W1.heap[w.heap.size]? = some (.cells #[.string op, .int .i64 n1, .int .i64 n2, .string nm, .slice base len cap] 29) := by rw [hW1, Below.heap_alloc _ _ _ (by simp)]; exact block_new rfl
  have j2 : W1.heap[w.heap.size + 1]? = some (.cells #[.string ⟨#[]⟩, .int .i64 0, .int .i64 0, .string ⟨#[]⟩, .slice none 0 0] 29) := by rw [hW1]; exact block_new (by simp)
  by_cases h : wrongI t = 0
  · have HE := Lib.hid (show simpE t = foldE t from if_pos h)
    have hd := wrong_zero h
    have HF := Lib.hid (fun W (hW : Ext w W) => rfold_any 12 t hd.2.1 hd.2.2 W v (hv.ext hW))
    have h2 := Lib.hid (fold_two 12 t hd.2.1 hd.2.2)
    rw [h] at HW
    subst hform
    clear h hd hv HV
    go_enter Try.func21, Try.ntmps21
    go_upto_region 1 with (fail)
    rw [← hW1]
    clear hW1
    obtain ⟨p1, hp1⟩ : ∃ p, p = w.heap.size := ⟨_, rfl⟩
    obtain ⟨p2, hp2⟩ : ∃ p, p = w.heap.size + 1 := ⟨_, rfl⟩
    have hp2w : w.heap.size ≤ p2 := by omega
    have HP2 := Lib.hid hp2w
    rw [← hp2] at j2 ⊢
    rw [← hp1] at j1 ⊢
    clear hp1 hp2 hp2w
    have J1 := Lib.hid j1; have J2 := Lib.hid j2; have HX1 := Lib.hid hx1
    obtain ⟨c, -, l1⟩ := Rg.cells_of j1
    clear j1 j2 hx1
    have a0 : W1.cell? ⟨p1, 0, none⟩ = some (.string op) := c 0
    have a1 : W1.cell? ⟨p1, 1, none⟩ = some (.int .i64 n1) := c 1
    have a2 : W1.cell? ⟨p1, 2, none⟩ = some (.int .i64 n2) := c 2
    have a3 : W1.cell? ⟨p1, 3, none⟩ = some (.string nm) := c 3
    have a4 : W1.cell? ⟨p1, 4, none⟩ = some (.slice base len cap) := c 4
    clear c
    go_wp2_with (first
      | (go_at_call 34; (with_reducible refine (HW.out _ HX1.out).mono ?_); rintro e w3 ⟨rfl, hx3⟩; clear a0 a1 a2 a3 a4 l1; obtain ⟨c, -, l1⟩ := Rg.cells_of ((hx3.block _ (Rg.lt_of_heap J1.out)).trans J1.out); have a0 := c 0; have a1 := c 1; have a2 := c 2; have a3 := c 3; have a4 := c 4; simp only [List.getElem?_toArray, List.getElem?_cons_succ, List.getElem?_cons_zero] at a0 a1 a2 a3 a4; clear c)
      | (go_at_call 48; (with_reducible refine (HF.out _ (HX1.out.trans hx3)).mono ?_); rintro e w4 ⟨v4, rfl, hx4, hr⟩; obtain ⟨q0, q1, q2, q3, q4, q5, q6, rfl⟩ := hr.form; have HR := Lib.hid hr; clear hr; obtain ⟨c2, f2, l2⟩ := Rg.cells_of (((hx3.trans hx4).block _ (Rg.lt_of_heap J2.out)).trans J2.out)))
    have hp2 := HP2.out
    have hxx := HX1.out.trans (hx3.trans hx4)
    have hk : ∀ b o, ¬ b = p2 → b < w4.heap.size → (((((w4.setCell ⟨p2, 0, none⟩ (.string q0)).setCell ⟨p2, 1, none⟩ (.int .i64 q1)).setCell ⟨p2, 2, none⟩ (.int .i64 q2)).setCell ⟨p2, 3, none⟩ (.string q3)).setCell ⟨p2, 4, none⟩ (.slice q4 q5 q6)).cell? ⟨b, o, none⟩ = w4.cell? ⟨b, o, none⟩ := fun b o h1 _ =>
      World.cell?_of_block ((heap_setCell_other _ _ _ _ h1).trans ((heap_setCell_other _ _ _ _ h1).trans ((heap_setCell_other _ _ _ _ h1).trans ((heap_setCell_other _ _ _ _ h1).trans (heap_setCell_other _ _ _ _ h1)))))
    have v5 := c2 5
    exact bodyPost_ret (v := .agg #[.string q0, .int .i64 q1, .int .i64 q2, .string q3, .slice q4 q5 q6]) (by simp [results, Try.results21, go_sem, c2, l2]) rfl ⟨_, rfl, (by with_reducible repeat (first | exact Ext.refl _ | assumption | apply Ext.drewN | apply Ext.drew | apply Ext.alloc | (refine Ext.setCell ?_ (by simp <;> omega) _) | (refine Ext.trans ?_ (by assumption)))), by rw [HE.out]; exact Rd.past h2.out HR.out v5 hk⟩
  · have HE := Lib.hid (show simpE t = t from if_neg h)
    have hne : (wrongI t != 0) = true := by rw [bne_iff_ne]; exact h
    generalize wrongI t = kk at *
    subst hform
    clear h hv
    go_enter Try.func21, Try.ntmps21
    go_upto_region 1 with (fail)
    rw [← hW1]
    clear hW1
    obtain ⟨p1, hp1⟩ : ∃ p, p = w.heap.size := ⟨_, rfl⟩
    obtain ⟨p2, hp2⟩ : ∃ p, p = w.heap.size + 1 := ⟨_, rfl⟩
    have hp2w : w.heap.size ≤ p2 := by omega
    have HP2 := Lib.hid hp2w
    rw [← hp2] at j2 ⊢
    rw [← hp1] at j1 ⊢
    clear hp1 hp2 hp2w
    have J1 := Lib.hid j1; have J2 := Lib.hid j2; have HX1 := Lib.hid hx1
    obtain ⟨c, -, l1⟩ := Rg.cells_of j1
    clear j1 j2 hx1
    have a0 : W1.cell? ⟨p1, 0, none⟩ = some (.string op) := c 0
    have a1 : W1.cell? ⟨p1, 1, none⟩ = some (.int .i64 n1) := c 1
    have a2 : W1.cell? ⟨p1, 2, none⟩ = some (.int .i64 n2) := c 2
    have a3 : W1.cell? ⟨p1, 3, none⟩ = some (.string nm) := c 3
    have a4 : W1.cell? ⟨p1, 4, none⟩ = some (.slice base len cap) := c 4
    clear c
    go_wp2_with (go_at_call 34; (with_reducible refine (HW.out _ HX1.out).mono ?_); rintro e w3 ⟨rfl, hx3⟩; clear a0 a1 a2 a3 a4 l1; obtain ⟨c, -, l1⟩ := Rg.cells_of ((hx3.block _ (Rg.lt_of_heap J1.out)).trans J1.out); have a0 := c 0; have a1 := c 1; have a2 := c 2; have a3 := c 3; have a4 := c 4; simp only [List.getElem?_toArray, List.getElem?_cons_succ, List.getElem?_cons_zero] at a0 a1 a2 a3 a4; clear c; obtain ⟨c2, f2, l2⟩ := Rg.cells_of ((hx3.block _ (Rg.lt_of_heap J2.out)).trans J2.out))
    have hp2 := HP2.out
    have hxx := HX1.out.trans hx3
    have hxf : Ext w (((((w3.setCell ⟨p2, 0, none⟩ (.string op)).setCell ⟨p2, 1, none⟩ (.int .i64 n1)).setCell ⟨p2, 2, none⟩ (.int .i64 n2)).setCell ⟨p2, 3, none⟩ (.string nm)).setCell ⟨p2, 4, none⟩ (.slice base len cap)) := (by with_reducible repeat (first | exact Ext.refl _ | assumption | apply Ext.drewN | apply Ext.drew | apply Ext.alloc | (refine Ext.setCell ?_ (by simp <;> omega) _) | (refine Ext.trans ?_ (by assumption))))
    exact bodyPost_ret (v := .agg #[.string op, .int .i64 n1, .int .i64 n2, .string nm, .slice base len cap]) (by simp [results, Try.results21, go_sem, c2, l2]) rfl ⟨_, rfl, hxf, by rw [HE.out]; exact HV.out.ext hxf⟩
end Go.Proofs.Ytgkdeknfmmgbdaa
