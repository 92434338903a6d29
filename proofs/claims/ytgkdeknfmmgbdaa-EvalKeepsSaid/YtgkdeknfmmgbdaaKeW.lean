/-
  EvalKeeps walked. Conditions: the arguments read as lists of ints.
-/
import Derived.Test.YtgkdeknfmmgbdaaPtA
import Derived.Test.YtgkdeknfmmgbdaaJnI
import Derived.Test.YtgkdeknfmmgbdaaKeF
namespace Go.Proofs.Ytgkdeknfmmgbdaa
set_option linter.unusedVariables false
set_option linter.unusedSimpArgs false
open Go.RowKit

theorem neq51 (s : ByteArray) (n : Int) (w : World) : (binOp .neq 51 (.agg #[.string s, .int .i64 n]) (.agg #[.string s, .int .i64 n])).run Try.prog w = .ok (.bool false) w := by
  simp [go_sem]
theorem VRd.cut {w : World} {vs : Vals} {A : Option Addr} {cap : Nat} (h : VRd All w vs (.slice A vs.length cap)) (m : Nat) (hm : m ≤ vs.length) : VRd All w (vs.take m) (.slice A m cap) := by
  obtain ⟨A', c', e, h1, h2, h3⟩ := h
  injection e with e1 _ e3
  subst e1 e3
  have hl : (vs.take m).length = m := by rw [List.length_take]; omega
  refine ⟨A, cap, by rw [hl], by rw [hl]; omega, fun x hx => h2 x (List.mem_of_mem_take hx), ?_⟩
  rcases h3 with h3 | ⟨b, hb, hs, hc⟩
  · exact .inl (by rw [h3]; simp)
  · refine .inr ⟨b, hb, hs, fun k hk => ?_⟩
    have hk' : k < vs.length := by rw [hl] at hk; omega
    rw [List.getElem_take]
    exact hc k hk'
theorem list10 {α : Type} : ∀ (l : List α), l.length = 10 → ∃ e0 e1 e2 e3 e4 e5 e6 e7 e8 e9, l = [e0, e1, e2, e3, e4, e5, e6, e7, e8, e9]
  | [e0, e1, e2, e3, e4, e5, e6, e7, e8, e9], _ => ⟨e0, e1, e2, e3, e4, e5, e6, e7, e8, e9, rfl⟩
theorem Rd.below {w w' : World} {t : Ex} {v : Value} (h : Rd All w t v) (hb : ∀ b, b < w.heap.size → w'.heap[b]? = w.heap[b]?) : Rd All w' t v :=
  Rd.frame (fun b o _ hl => World.cell?_of_block (hb b hl)) (fun _ h => h) t v h
theorem VRd.below {w w' : World} {vs : Vals} {v : Value} (h : VRd All w vs v) (hb : ∀ b, b < w.heap.size → w'.heap[b]? = w.heap[b]?) : VRd All w' vs v :=
  h.frame (fun b o _ hl => World.cell?_of_block (hb b hl)) (fun _ h => h)

set_option maxRecDepth 100000 in
set_option maxHeartbeats 4000000 in
theorem keeps_walk (l0 l1 : List Int) (w : World) (v0 v1 : Value) (r0 : IRd w v0 l0) (r1 : IRd w v1 l1) :
    Calls Try.prog 10 #[v0, v1] w fun e w' => e = .returned (.bool true) ∧ Ext w w' := by
  have HMA := Lib.hid (fun w' (hw : Ext w w') => Made_any l0 w' v0 (r0.ext hw))
  have HVA : Hid (∀ w', Ext w w' → Calls Try.prog 15 #[v1] w' fun e w'' => ∃ A cap, e = .returned (.slice A (valuesE l1).length cap) ∧ Ext w' w'' ∧ VRd All w'' (valuesE l1) (.slice A (valuesE l1).length cap) ∧ (valuesE l1).length ≤ cap) := Lib.hid (fun w' (hw : Ext w w') => (Values_any l1 w' v1 (r1.ext hw)).mono fun _ _ ⟨u, h1, h2, h3, h4, h5⟩ => by
    obtain ⟨A, cap, e, -⟩ := id h3
    subst e
    refine ⟨A, cap, h1, h2, h3, ?_⟩
    rcases h4.2 with ⟨hn, e⟩ | ⟨g, c, cur, e, -, -, hle, -⟩
    · omega
    · injection e with _ e2 e3; omega)
  have hvl : (valuesE l1).length ≤ 6 := by
    unfold valuesE; rw [valN_length, List.length_take]; omega
  have HTP := Lib.hid (madeE_parts l0)
  have HTW := Lib.hid (madeE_two l0)
  clear r0 r1
  generalize madeE l0 = te at *
  generalize valuesE l1 = vs at *
  have HVL := Lib.hid hvl
  clear hvl
  go_enter Try.func10, Try.ntmps10
  go_upto_region 2 with (go_at_call 13; (with_reducible refine (sanity_any _).mono ?_); rintro e w1 ⟨rfl, hx1⟩)
  go_upto_region 3 with (first
    | (go_at_call 14; (fail_if_success (have hzz := hx2)); (with_reducible refine (HMA.out _ (by with_reducible repeat (first | exact Ext.refl _ | assumption | apply Ext.drewN | apply Ext.drew | apply Ext.alloc | (refine Ext.setCell ?_ (by simp <;> omega) _) | (refine Ext.trans ?_ (by assumption))))).mono ?_); rintro e w2 ⟨u2, rfl, hx2, hr2⟩; obtain ⟨op, m1, m2, nm, base, len, capt, hform⟩ := hr2.form; subst hform)
    | (go_at_call 14; (with_reducible refine (HMA.out _ (by with_reducible repeat (first | exact Ext.refl _ | assumption | apply Ext.drewN | apply Ext.drew | apply Ext.alloc | (refine Ext.setCell ?_ (by simp <;> omega) _) | (refine Ext.trans ?_ (by assumption))))).mono ?_); rintro e w3 ⟨u3, rfl, hx3, hr3⟩; obtain ⟨op', m1', m2', nm', base', len', capt', hform⟩ := hr3.form; subst hform))
  obtain ⟨W3, hW3⟩ : ∃ W3, W3 = (w3.alloc (.cells #[.string op, .int .i64 m1, .int .i64 m2, .string nm, .slice base len capt] 29)).alloc (.cells #[.string op', .int .i64 m1', .int .i64 m2', .string nm', .slice base' len' capt'] 29) := ⟨_, rfl⟩
  have hx4 : Ext w3 W3 := by rw [hW3]; exact Ext.alloc (Ext.alloc (Ext.refl _) _) _
  have h6 : W3.heap[w3.heap.size]? = some (.cells #[.string op, .int .i64 m1, .int .i64 m2, .string nm, .slice base len capt] 29) := by rw [hW3, Below.heap_alloc _ _ _ (by simp)]; exact block_new rfl
  have h7 : W3.heap[w3.heap.size + 1]? = some (.cells #[.string op', .int .i64 m1', .int .i64 m2', .string nm', .slice base' len' capt'] 29) := by rw [hW3]; exact block_new (by simp)
  rw [← hW3]
  have HR2 := Lib.hid (hr2.ext (hx3.trans hx4)); have HR3 := Lib.hid (hr3.ext hx4)
  have HX3 := Lib.hid (hx1.trans (hx2.trans (hx3.trans hx4)))
  clear hW3 hr2 hr3 hx1 hx2 hx3 hx4
  obtain ⟨p6, hp6⟩ : ∃ p, p = w3.heap.size := ⟨_, rfl⟩
  obtain ⟨p7, hp7⟩ : ∃ p, p = w3.heap.size + 1 := ⟨_, rfl⟩
  rw [← hp7] at h7 ⊢
  rw [← hp6] at h6 ⊢
  clear hp6 hp7
  have H6 := Lib.hid h6; have H7 := Lib.hid h7
  clear h6 h7 HMA
  go_upto_region 4 with (first
    | (go_at_call 15; (fail_if_success (have hzz := hx5)); (with_reducible refine (HVA.out _ HX3.out).mono ?_); rintro e w5 ⟨A, cp, rfl, hx5, hv5, hcp⟩)
    | (go_at_call 15; (with_reducible refine (HVA.out _ (HX3.out.trans hx5)).mono ?_); rintro e w6 ⟨A', cp', rfl, hx6, hv6, hcp'⟩))
  have HX4 := Lib.hid (HX3.out.trans (hx5.trans hx6))
  have H64 := Lib.hid (((hx5.trans hx6).block _ (Rg.lt_of_heap H6.out)).trans H6.out)
  have H74 := Lib.hid (((hx5.trans hx6).block _ (Rg.lt_of_heap H7.out)).trans H7.out)
  have HR24 := Lib.hid (HR2.out.ext (hx5.trans hx6)); have HR34 := Lib.hid (HR3.out.ext (hx5.trans hx6))
  have HV4 := Lib.hid (hv5.ext hx6); have HU4 := Lib.hid hv6
  have HCP := Lib.hid hcp
  clear hx5 hx6 hv5 hv6 hcp hcp' H6 H7 HR2 HR3 HX3 HVA
  -- what lies below stays
  have HST : Hid (∀ W, (∀ b, b < w6.heap.size → W.heap[b]? = w6.heap[b]?) → W.heap[p6]? = some (.cells #[.string op, .int .i64 m1, .int .i64 m2, .string nm, .slice base len capt] 29) ∧ W.heap[p7]? = some (.cells #[.string op', .int .i64 m1', .int .i64 m2', .string nm', .slice base' len' capt'] 29) ∧ Rd All W te (.agg #[.string op, .int .i64 m1, .int .i64 m2, .string nm, .slice base len capt]) ∧ Rd All W te (.agg #[.string op', .int .i64 m1', .int .i64 m2', .string nm', .slice base' len' capt']) ∧ VRd All W vs (.slice A vs.length cp) ∧ VRd All W vs (.slice A' vs.length cp')) :=
    Lib.hid fun W hb => ⟨(hb _ (Rg.lt_of_heap H64.out)).trans H64.out, (hb _ (Rg.lt_of_heap H74.out)).trans H74.out, HR24.out.below hb, HR34.out.below hb, HV4.out.below hb, HU4.out.below hb⟩
  obtain ⟨c6, -, l6⟩ := Rg.cells_of H64.out
  skip
  have a0 : w6.cell? ⟨p6, 0, none⟩ = some (.string op) := c6 0
  have a1 : w6.cell? ⟨p6, 1, none⟩ = some (.int .i64 m1) := c6 1
  have a2 : w6.cell? ⟨p6, 2, none⟩ = some (.int .i64 m2) := c6 2
  have a3 : w6.cell? ⟨p6, 3, none⟩ = some (.string nm) := c6 3
  have a4 : w6.cell? ⟨p6, 4, none⟩ = some (.slice base len capt) := c6 4
  clear c6
  have HWR := Lib.hid (fun W (h : Rd All W te (.agg #[.string op, .int .i64 m1, .int .i64 m2, .string nm, .slice base len capt])) => rwrong_any te (by have := HTP.out; omega) W _ h)
  by_cases hw0 : wrongI te = 0
  · rw [hw0] at HWR
    have HSI := Lib.hid (simplify_top All (fun b => w6.heap.size ≤ b) te hw0 w6 _ HR24.out (fun _ h => h))
    clear hw0
    go_upto_region 5 with (go_at_call 19; (with_reducible refine (HSI.out).mono ?_); rintro e w7 ⟨u7, rfl, hx7, hr7, hto⟩; obtain ⟨op7, z1, z2, nm7, bs7, ln7, ct7, hform⟩ := hr7.form; subst hform)
    have hx8 : Ext w6 (w7.alloc (.cells #[.string op7, .int .i64 z1, .int .i64 z2, .string nm7, .slice bs7 ln7 ct7] 29)) := (by with_reducible repeat (first | exact Ext.refl _ | assumption | apply Ext.drewN | apply Ext.drew | apply Ext.alloc | (refine Ext.setCell ?_ (by simp <;> omega) _) | (refine Ext.trans ?_ (by assumption))))
    have h10 : (w7.alloc (.cells #[.string op7, .int .i64 z1, .int .i64 z2, .string nm7, .slice bs7 ln7 ct7] 29)).heap[w7.heap.size]? = some (.cells #[.string op7, .int .i64 z1, .int .i64 z2, .string nm7, .slice bs7 ln7 ct7] 29) := block_new rfl
    have hx78 : Ext w7 (w7.alloc (.cells #[.string op7, .int .i64 z1, .int .i64 z2, .string nm7, .slice bs7 ln7 ct7] 29)) := (by with_reducible repeat (first | exact Ext.refl _ | assumption | apply Ext.drewN | apply Ext.drew | apply Ext.alloc | (refine Ext.setCell ?_ (by simp <;> omega) _) | (refine Ext.trans ?_ (by assumption))))
    have hlt7 : w6.heap.size ≤ w7.heap.size := hx7.size
    -- the row of the parts
    have HTO : Hid (ln7 = 0 ∨ (ln7 = 2 ∧ ∃ N, bs7 = some ⟨N, 0, none⟩ ∧ w6.heap.size ≤ N ∧ N < w7.heap.size ∧ ∃ cs, (w7.alloc (.cells #[.string op7, .int .i64 z1, .int .i64 z2, .string nm7, .slice bs7 ln7 ct7] 29)).heap[N]? = some (.cells cs 29) ∧ cs.size = 10)) := Lib.hid (by
      rcases hto with ⟨a, b, c, d, bb, cc, e⟩ | ⟨a, b, c, d, N, e, cs, hN, hs⟩
      · injection e with e; simp at e; exact .inl e.2.2.2.2.2.1
      · injection e with e; simp at e
        obtain ⟨-, -, -, -, e1, e2, -⟩ := e
        refine .inr ⟨e2, N, e1, ?_, Rg.lt_of_heap hN, cs, (hx78.block _ (Rg.lt_of_heap hN)).trans hN, hs⟩
        obtain ⟨t7, ht7⟩ : ∃ t, t = simpE te := ⟨_, rfl⟩
        rw [← ht7] at hr7
        obtain ⟨o, nn, mm, ts⟩ := t7
        unfold Rd at hr7
        obtain ⟨bb, cc, ev, -, -, hq⟩ := hr7
        injection ev with ev
        simp at ev
        obtain ⟨-, -, -, -, ev1, ev2, -⟩ := ev
        rcases hq with rfl | ⟨b, hb, hsb, -⟩
        · simp at ev2; omega
        · rw [e1, hb] at ev1
          injection ev1 with ev1
          injection ev1 with ev1 _ _
          rw [ev1]; exact hsb)
    have H10 := Lib.hid h10
    have HX8 := Lib.hid hx8
    clear h10 hx78 hto hr7 hx7 hx8 a0 a1 a2 a3 a4 l6 HSI
    obtain ⟨p10, hp10⟩ : ∃ p, p = w7.heap.size := ⟨_, rfl⟩
    rw [← hp10] at H10 HTO hlt7 ⊢
    have HP10 := Lib.hid hlt7
    clear hp10 hlt7
    generalize w7.alloc (.cells #[.string op7, .int .i64 z1, .int .i64 z2, .string nm7, .slice bs7 ln7 ct7] 29) = W8 at *
    obtain ⟨h68, -, hr8, -, -, -⟩ := HST.out W8 (fun b hb => HX8.out.block b hb)
    obtain ⟨c6, -, l6⟩ := Rg.cells_of h68
    have a0 : W8.cell? ⟨p6, 0, none⟩ = some (.string op) := c6 0
    have a1 : W8.cell? ⟨p6, 1, none⟩ = some (.int .i64 m1) := c6 1
    have a2 : W8.cell? ⟨p6, 2, none⟩ = some (.int .i64 m2) := c6 2
    have a3 : W8.cell? ⟨p6, 3, none⟩ = some (.string nm) := c6 3
    have a4 : W8.cell? ⟨p6, 4, none⟩ = some (.slice base len capt) := c6 4
    clear c6
    have HR8 := Lib.hid hr8
    clear h68 hr8
    go_upto_region 6 with (go_at_call 34; (with_reducible refine (HWR.out _ HR8.out).mono ?_); rintro e w9 ⟨rfl, hx9⟩)
    have HX9 := Lib.hid hx9
    obtain ⟨c10, -, l10⟩ := Rg.cells_of ((hx9.block _ (Rg.lt_of_heap H10.out)).trans H10.out)
    have d4 : w9.cell? ⟨p10, 4, none⟩ = some (.slice bs7 ln7 ct7) := c10 4
    clear c10 hx9 a0 a1 a2 a3 a4 l6
    go_wp2_with (fail)
    go_loopw [30] (fun k wr => ∃ j : Nat, k = .int .i64 j ∧ j ≤ ln7 ∧ (∀ b, b < w6.heap.size → wr.heap[b]? = W8.heap[b]?) ∧ Ext w6 wr ∧ wr.heap[p10]? = W8.heap[p10]? ∧ (ln7 = 0 ∨ (ln7 = 2 ∧ ∃ N, bs7 = some ⟨N, 0, none⟩ ∧ w6.heap.size ≤ N ∧ N < p10 ∧ ∃ cs, wr.heap[N]? = some (.cells cs 29) ∧ cs.size = 10))) (fun k _ => ln7 - (intOf k).toNat)
    case atStart =>
      refine ⟨0, rfl, Nat.zero_le _, fun b hb => HX9.out.block b (Nat.lt_of_lt_of_le hb HX8.out.size), HX8.out.trans HX9.out, HX9.out.block _ (Rg.lt_of_heap H10.out), ?_⟩
      rcases HTO.out with h | ⟨h, N, h1, h2, h3, cs, h4, h5⟩
      · exact .inl h
      · exact .inr ⟨h, N, h1, h2, h3, cs, (HX9.out.block _ (Rg.lt_of_heap h4)).trans h4, h5⟩
    case round =>
      obtain ⟨j, rfl, hj, hbl, hxr, hp, hto⟩ := hrel
      have HBL := Lib.hid hbl; have HXR := Lib.hid hxr; have HPr := Lib.hid (hp.trans H10.out)
      have HPs := Lib.hid hp
      clear hbl hxr hp
      obtain ⟨c10, -, l10⟩ := Rg.cells_of HPr.out
      have d4 : wr.cell? ⟨p10, 4, none⟩ = some (.slice bs7 ln7 ct7) := c10 4
      clear c10
      rcases hto with hln | ⟨hln, N, rfl, hN0, hN1, cs, hN, hcs⟩
      · have hge : ¬ (j : Int) < (ln7 : Int) := by omega
        clear hln
        clear d4 l10
        have HB := Lib.hid (fun b (hb : b < w6.heap.size) => (HBL.out b hb).trans (HX8.out.block b hb))
        have HXc := Lib.hid (HX4.out.trans HXR.out)
        rename World => wo
        obtain ⟨h6c, h7c, hrc, hrc', hvc, huc⟩ := HST.out _ HB.out
        obtain ⟨c6, -, l6⟩ := Rg.cells_of h6c
        have a0 : wo.cell? ⟨p6, 0, none⟩ = some (.string op) := c6 0
        have a1 : wo.cell? ⟨p6, 1, none⟩ = some (.int .i64 m1) := c6 1
        have a2 : wo.cell? ⟨p6, 2, none⟩ = some (.int .i64 m2) := c6 2
        have a3 : wo.cell? ⟨p6, 3, none⟩ = some (.string nm) := c6 3
        have a4 : wo.cell? ⟨p6, 4, none⟩ = some (.slice base len capt) := c6 4
        clear c6
        have H6c := Lib.hid h6c; have H7c := Lib.hid h7c; have HRc := Lib.hid hrc; have HRc' := Lib.hid hrc'; have HVc := Lib.hid hvc; have HUc := Lib.hid huc
        clear h6c h7c hrc hrc' hvc huc
        go_upto_region 12 with (go_at_call 17; (with_reducible refine (eval_any All vs te _ _ _ HRc.out HVc.out).mono ?_); rintro e w11 ⟨rfl, hx11⟩)
        have HX11 := Lib.hid hx11
        have h6d := (hx11.block _ (Rg.lt_of_heap H6c.out)).trans H6c.out
        clear hx11 a0 a1 a2 a3 a4 l6
        obtain ⟨m, hm, hml⟩ : ∃ m : Nat, min (vs.length : Int) 2 = (m : Int) ∧ m ≤ vs.length := by
          rcases Nat.lt_or_ge vs.length 2 with h | h
          · exact ⟨vs.length, by omega, Nat.le_refl _⟩
          · exact ⟨2, by omega, h⟩
        have HML := Lib.hid hml
        have hmc : (m : Int) ≤ (cp : Int) := by have := HCP.out; omega
        have hm0 : (0 : Int) ≤ (m : Int) := by omega
        have hcp : (vs.length : Int) ≤ (cp : Int) := by have := HCP.out; omega
        clear hml
        refine Rr.wp_region ((List.range 8).map (fun i => (i, .y))) (fun _ => (.cells #[] 29, Rg.ptr)) (by kernel_rfl) (by kernel_rfl) ?_
        simp only [List.range, List.range.loop, List.map_cons, List.map_nil]
        (refine Rr.wr_y (by simp only [List.getElem?_toArray, List.getElem?_cons_succ, List.getElem?_cons_zero]; rfl) (by rfl) ?_
         apply Exists.intro
         refine ⟨fun wz hw _ => ?_, ?_⟩
         · have hcz := hw.cells.1
           exact up_row (by rfl) ((hw.block _ (Rg.lt_of_heap h6d)).trans h6d) Try.underlying29 (by kernel_rfl)
         simp only [Act.put, List.setIfInBounds_toArray, List.set_cons_zero, List.set_cons_succ])
        (refine Rr.wr_y (by simp only [List.getElem?_toArray, List.getElem?_cons_succ, List.getElem?_cons_zero]; rfl) (by rfl) ?_
         apply Exists.intro
         refine ⟨fun wz hw _ => ?_, ?_⟩
         · have hcz := hw.cells.1
           go_simp
           (with_reducible exact Rg.up_value)
         simp only [Act.put, List.setIfInBounds_toArray, List.set_cons_zero, List.set_cons_succ])
        (refine Rr.wr_y (by simp only [List.getElem?_toArray, List.getElem?_cons_succ, List.getElem?_cons_zero]; rfl) (by rfl) ?_
         apply Exists.intro
         refine ⟨fun wz hw _ => ?_, ?_⟩
         · have hcz := hw.cells.1
           go_simp
           (with_reducible exact Rg.up_value)
         simp only [Act.put, List.setIfInBounds_toArray, List.set_cons_zero, List.set_cons_succ])
        (refine Rr.wr_y (by simp only [List.getElem?_toArray, List.getElem?_cons_succ, List.getElem?_cons_zero]; rfl) (by rfl) ?_
         apply Exists.intro
         refine ⟨fun wz hw _ => ?_, ?_⟩
         · have hcz := hw.cells.1
           go_simp
           (with_reducible exact Rg.up_value)
         simp only [Act.put, List.setIfInBounds_toArray, List.set_cons_zero, List.set_cons_succ])
        (refine Rr.wr_y (by simp only [List.getElem?_toArray, List.getElem?_cons_succ, List.getElem?_cons_zero]; rfl) (by rfl) ?_
         apply Exists.intro
         refine ⟨fun wz hw _ => ?_, ?_⟩
         · have hcz := hw.cells.1
           go_simp
           (with_reducible exact Rg.up_value)
         simp only [Act.put, List.setIfInBounds_toArray, List.set_cons_zero, List.set_cons_succ])
        (refine Rr.wr_y (by simp only [List.getElem?_toArray, List.getElem?_cons_succ, List.getElem?_cons_zero]; rfl) (by rfl) ?_
         apply Exists.intro
         refine ⟨fun wz hw _ => ?_, ?_⟩
         · have hcz := hw.cells.1
           go_simp
           (with_reducible exact Rg.up_value)
         simp only [Act.put, List.setIfInBounds_toArray, List.set_cons_zero, List.set_cons_succ])
        (refine Rr.wr_y (by simp only [List.getElem?_toArray, List.getElem?_cons_succ, List.getElem?_cons_zero]; rfl) (by rfl) ?_
         apply Exists.intro
         refine ⟨fun wz hw _ => ?_, ?_⟩
         · have hcz := hw.cells.1
           go_simp
           (with_reducible exact Rg.up_value)
         simp only [Act.put, List.setIfInBounds_toArray, List.set_cons_zero, List.set_cons_succ])
        (refine Rr.wr_y (by simp only [List.getElem?_toArray, List.getElem?_cons_succ, List.getElem?_cons_zero]; rfl) (by rfl) ?_
         apply Exists.intro
         refine ⟨fun wz hw _ => ?_, ?_⟩
         · have hcz := hw.cells.1
           go_simp
           (with_reducible exact Rg.up_value)
         simp only [Act.put, List.setIfInBounds_toArray, List.set_cons_zero, List.set_cons_succ])
        refine Rr.wr_nil ?_
        intro wy hy hh
        simp only [List.length_cons, List.length_nil, List.drop_succ_cons, List.drop_zero, Nat.reduceAdd]
        clear hh hm hmc hm0 hcp h6d
        go_upto_region 13 with (go_at_call 32; (with_reducible refine (points_any (vs.take m) te 0 1 (by decide) (by decide) wy (.string nilB) (.slice none 0 0) (.slice none 0 0) (.slice none 0 0) (.int .i64 0) (.int .i64 0) (.string op) (.int .i64 m1) (.int .i64 m2) (.string nm) (.slice base len capt) (.slice none 0 0) (.int .i64 0) (.slice none 0 0) (.int .i64 0) (.int .i64 0) (.int .i64 0) (.int .i64 0) (.int .i64 0) (.int .i64 0) (.int .i64 0) (.int .i64 0) (.int .i64 0) (.slice A m cp) (HRc.out.ext (HX11.out.trans hy)) ((HVc.out.cut m HML.out).ext (HX11.out.trans hy)) (by rw [List.length_take]; have := HVL.out; omega)).mono ?_); rintro e w13 ⟨rfl, hx13⟩)
        have HX13 := Lib.hid (HX11.out.trans (hy.trans hx13))
        clear hx13 hy
        have HC2 : Hid (∀ W, Ext wo W → ∀ k (hk : k < vs.length), ∃ b b', A = some ⟨b, 0, none⟩ ∧ A' = some ⟨b', 0, none⟩ ∧ b < W.heap.size ∧ b' < W.heap.size ∧ W.cell? ⟨b, k * 2, none⟩ = some (.string vs[k].1) ∧ W.cell? ⟨b, k * 2 + 1, none⟩ = some (.int .i64 vs[k].2) ∧ W.cell? ⟨b', k * 2, none⟩ = some (.string vs[k].1) ∧ W.cell? ⟨b', k * 2 + 1, none⟩ = some (.int .i64 vs[k].2)) := Lib.hid fun W hW k hk => by
          obtain ⟨_, _, e, -, -, h⟩ := HVc.out
          obtain ⟨_, _, e', -, -, h'⟩ := HUc.out
          injection e with e1 _ _
          injection e' with e1' _ _
          subst e1 e1'
          obtain ⟨b, hb, -, hc⟩ := h.resolve_left (by intro e; rw [e] at hk; cases hk)
          obtain ⟨b', hb', -, hc'⟩ := h'.resolve_left (by intro e; rw [e] at hk; cases hk)
          have l1 := World.block_lt_of_cell? _ _ (hc k hk).1
          have l2 := World.block_lt_of_cell? _ _ (hc' k hk).1
          exact ⟨b, b', hb, hb', Nat.lt_of_lt_of_le l1 hW.size, Nat.lt_of_lt_of_le l2 hW.size, (hW.cells.1 _ _ l1).trans (hc k hk).1, (hW.cells.1 _ _ l1).trans (hc k hk).2, (hW.cells.1 _ _ l2).trans (hc' k hk).1, (hW.cells.1 _ _ l2).trans (hc' k hk).2⟩
        have hvn : (vs.length : Int) ≤ 9223372036854775807 := by have := HVL.out; omega
        go_wp2_with (fail)
        go_loopw [53] (fun k ws => ∃ j : Nat, k = .int .i64 j ∧ j ≤ vs.length ∧ Ext wo ws) (fun k _ => vs.length - (intOf k).toNat)
        case atStart => exact ⟨0, rfl, Nat.zero_le _, HX13.out⟩
        case round =>
          obtain ⟨i, rfl, hi, hxs⟩ := hrel
          have HXS := Lib.hid hxs
          clear hxs
          rcases Nat.lt_or_ge i vs.length with hlt | hge
          · obtain ⟨b, b', rfl, rfl, lb, lb', g0, g1, g2, g3⟩ := HC2.out wr HXS.out i hlt
            have hlt' : (i : Int) < (vs.length : Int) := by omega
            have hi0 : (0 : Int) ≤ (i : Int) := by omega
            have kw : IntKind.i64.wrap ((i : Int) + 1) = (i : Int) + 1 := by rw [IntKind.wrap_i64]; omega
            generalize vs[i].1 = s1 at *
            generalize vs[i].2 = z1 at *
            have HN := fun w => neq51 s1 z1 w
            go_wp2_with (fail)
            refine Rr.wp_region ((List.range 8).map (fun i => (i, .y))) (fun _ => (.cells #[] 29, Rg.ptr)) (by kernel_rfl) (by kernel_rfl) ?_
            simp only [List.range, List.range.loop, List.map_cons, List.map_nil]
            (refine Rr.wr_y (by simp only [List.getElem?_toArray, List.getElem?_cons_succ, List.getElem?_cons_zero]; rfl) (by rfl) ?_
             apply Exists.intro
             refine ⟨fun wz hw _ => ?_, ?_⟩
             · have hcz := hw.cells.1
               go_simp
               (with_reducible exact Rg.up_value)
             simp only [Act.put, List.setIfInBounds_toArray, List.set_cons_zero, List.set_cons_succ])
            (refine Rr.wr_y (by simp only [List.getElem?_toArray, List.getElem?_cons_succ, List.getElem?_cons_zero]; rfl) (by rfl) ?_
             apply Exists.intro
             refine ⟨fun wz hw _ => ?_, ?_⟩
             · have hcz := hw.cells.1
               go_simp
               (with_reducible exact Rg.up_value)
             simp only [Act.put, List.setIfInBounds_toArray, List.set_cons_zero, List.set_cons_succ])
            (refine Rr.wr_y (by simp only [List.getElem?_toArray, List.getElem?_cons_succ, List.getElem?_cons_zero]; rfl) (by rfl) ?_
             apply Exists.intro
             refine ⟨fun wz hw _ => ?_, ?_⟩
             · have hcz := hw.cells.1
               go_simp
               (with_reducible exact Rg.up_value)
             simp only [Act.put, List.setIfInBounds_toArray, List.set_cons_zero, List.set_cons_succ])
            (refine Rr.wr_y (by simp only [List.getElem?_toArray, List.getElem?_cons_succ, List.getElem?_cons_zero]; rfl) (by rfl) ?_
             apply Exists.intro
             refine ⟨fun wz hw _ => ?_, ?_⟩
             · have hcz := hw.cells.1
               go_simp
               (with_reducible exact Rg.up_value)
             simp only [Act.put, List.setIfInBounds_toArray, List.set_cons_zero, List.set_cons_succ])
            (refine Rr.wr_y (by simp only [List.getElem?_toArray, List.getElem?_cons_succ, List.getElem?_cons_zero]; rfl) (by rfl) ?_
             apply Exists.intro
             refine ⟨fun wz hw _ => ?_, ?_⟩
             · have hcz := hw.cells.1
               go_simp
               (with_reducible exact Rg.up_value)
             simp only [Act.put, List.setIfInBounds_toArray, List.set_cons_zero, List.set_cons_succ])
            (refine Rr.wr_y (by simp only [List.getElem?_toArray, List.getElem?_cons_succ, List.getElem?_cons_zero]; rfl) (by rfl) ?_
             apply Exists.intro
             refine ⟨fun wz hw _ => ?_, ?_⟩
             · have hcz := hw.cells.1
               go_simp
               (with_reducible exact Rg.up_value)
             simp only [Act.put, List.setIfInBounds_toArray, List.set_cons_zero, List.set_cons_succ])
            (refine Rr.wr_y (by simp only [List.getElem?_toArray, List.getElem?_cons_succ, List.getElem?_cons_zero]; rfl) (by rfl) ?_
             apply Exists.intro
             refine ⟨fun wz hw _ => ?_, ?_⟩
             · have hcz := hw.cells.1
               go_simp
               (with_reducible exact Rg.up_value)
             simp only [Act.put, List.setIfInBounds_toArray, List.set_cons_zero, List.set_cons_succ])
            (refine Rr.wr_y (by simp only [List.getElem?_toArray, List.getElem?_cons_succ, List.getElem?_cons_zero]; rfl) (by rfl) ?_
             apply Exists.intro
             refine ⟨fun wz hw _ => ?_, ?_⟩
             · have hcz := hw.cells.1
               go_simp
               (with_reducible exact Rg.up_value)
             simp only [Act.put, List.setIfInBounds_toArray, List.set_cons_zero, List.set_cons_succ])
            refine Rr.wr_nil ?_
            intro wy hy hh
            simp only [List.length_cons, List.length_nil, List.drop_succ_cons, List.drop_zero, Nat.reduceAdd]
            clear hh
            go_wp2
            go_roundw
            case rel => exact ⟨i + 1, by go_num, by omega, HXS.out.trans hy⟩
            case measure => simp [intOf]; omega
          · have hge' : ¬ (i : Int) < (vs.length : Int) := by omega
            have h6e := (HXS.out.block _ (Rg.lt_of_heap H6c.out)).trans H6c.out
            have h7e := (HXS.out.block _ (Rg.lt_of_heap H7c.out)).trans H7c.out
            obtain ⟨c6, -, l6⟩ := Rg.cells_of h6e
            obtain ⟨c7, -, l7⟩ := Rg.cells_of h7e
            have a0 : wr.cell? ⟨p6, 0, none⟩ = some (.string op) := c6 0
            have a1 : wr.cell? ⟨p6, 1, none⟩ = some (.int .i64 m1) := c6 1
            have a2 : wr.cell? ⟨p6, 2, none⟩ = some (.int .i64 m2) := c6 2
            have a3 : wr.cell? ⟨p6, 3, none⟩ = some (.string nm) := c6 3
            have a4 : wr.cell? ⟨p6, 4, none⟩ = some (.slice base len capt) := c6 4
            clear c6
            have b0 : wr.cell? ⟨p7, 0, none⟩ = some (.string op') := c7 0
            have b1 : wr.cell? ⟨p7, 1, none⟩ = some (.int .i64 m1') := c7 1
            have b2 : wr.cell? ⟨p7, 2, none⟩ = some (.int .i64 m2') := c7 2
            have b3 : wr.cell? ⟨p7, 3, none⟩ = some (.string nm') := c7 3
            have b4 : wr.cell? ⟨p7, 4, none⟩ = some (.slice base' len' capt') := c7 4
            clear c7 h6e h7e
            go_wp2_with (go_at_call 20; (with_reducible refine (same_any All All te.depth te (Nat.le_refl _) _ _ _ (HRc.out.ext HXS.out) (HRc'.out.ext HXS.out)).mono ?_); rintro e w20 ⟨rfl, hx20⟩)
            go_ret
            exact ⟨rfl, HXc.out.trans (HXS.out.trans hx20)⟩
      · obtain ⟨e0, e1, e2, e3, e4, e5, e6, e7, e8, e9, hl⟩ := list10 cs.toList (by simpa using hcs)
        obtain rfl : cs = #[e0, e1, e2, e3, e4, e5, e6, e7, e8, e9] := by cases cs; simp_all
        have HN := Lib.hid hN; have HN0 := Lib.hid hN0; have HN1 := Lib.hid hN1; have HLN := Lib.hid hln
        rcases (show (j = 0 ∧ (0 : Int) < (ln7 : Int)) ∨ (j = 1 ∧ (1 : Int) < (ln7 : Int)) ∨ (j = 2 ∧ ¬ (j : Int) < (ln7 : Int)) by omega) with ⟨rfl, hlt⟩ | ⟨rfl, hlt⟩ | ⟨-, hge⟩
        all_goals clear hN0 hN1 hl hcs hN hln hj
        · skip
          skip
          rw [show ((0 : Nat) : Int) = 0 from rfl]
          go_wp2_with (fail)
          refine Rr.wp_region ((List.range 5).map (fun i => (i, .y))) (fun _ => (.cells #[] 29, Rg.ptr)) (by kernel_rfl) (by kernel_rfl) ?_
          simp only [List.range, List.range.loop, List.map_cons, List.map_nil]
          (refine Rr.wr_y (by simp only [List.getElem?_toArray, List.getElem?_cons_succ, List.getElem?_cons_zero]; rfl) (by rfl) ?_
           apply Exists.intro
           refine ⟨fun wz hw _ => ?_, ?_⟩
           · have hcz := hw.cells.1
             go_simp
             (with_reducible exact Rg.up_value)
           simp only [Act.put, List.setIfInBounds_toArray, List.set_cons_zero, List.set_cons_succ])
          (refine Rr.wr_y (by simp only [List.getElem?_toArray, List.getElem?_cons_succ, List.getElem?_cons_zero]; rfl) (by rfl) ?_
           apply Exists.intro
           refine ⟨fun wz hw _ => ?_, ?_⟩
           · have hcz := hw.cells.1
             go_simp
             (with_reducible exact Rg.up_value)
           simp only [Act.put, List.setIfInBounds_toArray, List.set_cons_zero, List.set_cons_succ])
          (refine Rr.wr_y (by simp only [List.getElem?_toArray, List.getElem?_cons_succ, List.getElem?_cons_zero]; rfl) (by rfl) ?_
           apply Exists.intro
           refine ⟨fun wz hw _ => ?_, ?_⟩
           · have hcz := hw.cells.1
             go_simp
             (with_reducible exact Rg.up_value)
           simp only [Act.put, List.setIfInBounds_toArray, List.set_cons_zero, List.set_cons_succ])
          (refine Rr.wr_y (by simp only [List.getElem?_toArray, List.getElem?_cons_succ, List.getElem?_cons_zero]; rfl) (by rfl) ?_
           apply Exists.intro
           refine ⟨fun wz hw _ => ?_, ?_⟩
           · have hcz := hw.cells.1
             go_simp
             apply Rg.up_enter
             (with_reducible refine (num_any 5 _).mono ?_)
             rintro e w3 ⟨rfl, hb3⟩
             exact ⟨rfl, hb3⟩
           simp only [Act.put, List.setIfInBounds_toArray, List.set_cons_zero, List.set_cons_succ])
          (refine Rr.wr_y (by simp only [List.getElem?_toArray, List.getElem?_cons_succ, List.getElem?_cons_zero]; rfl) (by rfl) ?_
           apply Exists.intro
           refine ⟨fun wz hw _ => ?_, ?_⟩
           · have hcz := hw.cells.1
             go_simp
             (with_reducible exact Rg.up_value)
           simp only [Act.put, List.setIfInBounds_toArray, List.set_cons_zero, List.set_cons_succ])
          refine Rr.wr_nil ?_
          intro wy hy hh
          simp only [List.length_cons, List.length_nil, List.drop_succ_cons, List.drop_zero, Nat.reduceAdd]
          clear hh
          have hNy := (hy.block _ (Rg.lt_of_heap HN.out)).trans HN.out
          obtain ⟨g, gf, gl⟩ := Rg.cells_of hNy
          have g0 : wy.cell? ⟨N, 0, none⟩ = _ := g 0
          have g1 : wy.cell? ⟨N, 1, none⟩ = _ := g 1
          have g2 : wy.cell? ⟨N, 2, none⟩ = _ := g 2
          have g3 : wy.cell? ⟨N, 3, none⟩ = _ := g 3
          have g4 : wy.cell? ⟨N, 4, none⟩ = _ := g 4
          have k0 := gf 0
          have k1 := gf 1
          have k2 := gf 2
          have k3 := gf 3
          have k4 := gf 4
          simp only [List.getElem?_toArray, List.getElem?_cons_succ, List.getElem?_cons_zero] at g0 g1 g2 g3 g4
          clear g gf
          go_wp2
          go_roundw
          case rel =>
            have hoth : ∀ b, b ≠ N → (((((wy.setCell ⟨N, 0, none⟩ (.string numB)).setCell ⟨N, 1, none⟩ (.int .i64 5)).setCell ⟨N, 2, none⟩ (.int .i64 1)).setCell ⟨N, 3, none⟩ (.string nilB)).setCell ⟨N, 4, none⟩ (.slice none 0 0)).heap[b]? = wy.heap[b]? := fun b hb =>
              (heap_setCell_other _ _ _ _ hb).trans ((heap_setCell_other _ _ _ _ hb).trans ((heap_setCell_other _ _ _ _ hb).trans ((heap_setCell_other _ _ _ _ hb).trans (heap_setCell_other _ _ _ _ hb))))
            have hn0 := HN0.out
            have hn1 := HN1.out
            have hsz := HXR.out.size
            have hln := HLN.out
            refine ⟨0 + 1, by go_num, by omega, fun b hb => (hoth b (by omega)).trans ((hy.block b (by omega)).trans (HBL.out b hb)), ?_, (hoth p10 (by omega)).trans ((hy.block _ (Rg.lt_of_heap HPr.out)).trans HPs.out), .inr ⟨hln, N, rfl, hn0, hn1, _, heap_setCell_same _ N 4 _ 29 _ (heap_setCell_same _ N 3 _ 29 _ (heap_setCell_same _ N 2 _ 29 _ (heap_setCell_same _ N 1 _ 29 _ (heap_setCell_same wy N 0 _ 29 _ hNy)))), rfl⟩⟩
            first
              | exact Ext.setCell (Ext.setCell (Ext.setCell (Ext.setCell (Ext.setCell (HXR.out.trans hy) hn0 _) hn0 _) hn0 _) hn0 _) hn0 _
              | exact Ext.drew (Ext.setCell (Ext.setCell (Ext.setCell (Ext.setCell (Ext.setCell (HXR.out.trans hy) hn0 _) hn0 _) hn0 _) hn0 _) hn0 _)
          case measure => have hln := HLN.out; simp [intOf]; omega
        · skip
          rw [show ((1 : Nat) : Int) = 1 from rfl]
          go_wp2_with (fail)
          refine Rr.wp_region ((List.range 5).map (fun i => (i, .y))) (fun _ => (.cells #[] 29, Rg.ptr)) (by kernel_rfl) (by kernel_rfl) ?_
          simp only [List.range, List.range.loop, List.map_cons, List.map_nil]
          (refine Rr.wr_y (by simp only [List.getElem?_toArray, List.getElem?_cons_succ, List.getElem?_cons_zero]; rfl) (by rfl) ?_
           apply Exists.intro
           refine ⟨fun wz hw _ => ?_, ?_⟩
           · have hcz := hw.cells.1
             go_simp
             (with_reducible exact Rg.up_value)
           simp only [Act.put, List.setIfInBounds_toArray, List.set_cons_zero, List.set_cons_succ])
          (refine Rr.wr_y (by simp only [List.getElem?_toArray, List.getElem?_cons_succ, List.getElem?_cons_zero]; rfl) (by rfl) ?_
           apply Exists.intro
           refine ⟨fun wz hw _ => ?_, ?_⟩
           · have hcz := hw.cells.1
             go_simp
             (with_reducible exact Rg.up_value)
           simp only [Act.put, List.setIfInBounds_toArray, List.set_cons_zero, List.set_cons_succ])
          (refine Rr.wr_y (by simp only [List.getElem?_toArray, List.getElem?_cons_succ, List.getElem?_cons_zero]; rfl) (by rfl) ?_
           apply Exists.intro
           refine ⟨fun wz hw _ => ?_, ?_⟩
           · have hcz := hw.cells.1
             go_simp
             (with_reducible exact Rg.up_value)
           simp only [Act.put, List.setIfInBounds_toArray, List.set_cons_zero, List.set_cons_succ])
          (refine Rr.wr_y (by simp only [List.getElem?_toArray, List.getElem?_cons_succ, List.getElem?_cons_zero]; rfl) (by rfl) ?_
           apply Exists.intro
           refine ⟨fun wz hw _ => ?_, ?_⟩
           · have hcz := hw.cells.1
             go_simp
             apply Rg.up_enter
             (with_reducible refine (num_any 5 _).mono ?_)
             rintro e w3 ⟨rfl, hb3⟩
             exact ⟨rfl, hb3⟩
           simp only [Act.put, List.setIfInBounds_toArray, List.set_cons_zero, List.set_cons_succ])
          (refine Rr.wr_y (by simp only [List.getElem?_toArray, List.getElem?_cons_succ, List.getElem?_cons_zero]; rfl) (by rfl) ?_
           apply Exists.intro
           refine ⟨fun wz hw _ => ?_, ?_⟩
           · have hcz := hw.cells.1
             go_simp
             (with_reducible exact Rg.up_value)
           simp only [Act.put, List.setIfInBounds_toArray, List.set_cons_zero, List.set_cons_succ])
          refine Rr.wr_nil ?_
          intro wy hy hh
          simp only [List.length_cons, List.length_nil, List.drop_succ_cons, List.drop_zero, Nat.reduceAdd]
          clear hh
          have hNy := (hy.block _ (Rg.lt_of_heap HN.out)).trans HN.out
          obtain ⟨g, gf, gl⟩ := Rg.cells_of hNy
          have g0 : wy.cell? ⟨N, 5, none⟩ = _ := g 5
          have g1 : wy.cell? ⟨N, 6, none⟩ = _ := g 6
          have g2 : wy.cell? ⟨N, 7, none⟩ = _ := g 7
          have g3 : wy.cell? ⟨N, 8, none⟩ = _ := g 8
          have g4 : wy.cell? ⟨N, 9, none⟩ = _ := g 9
          have k0 := gf 5
          have k1 := gf 6
          have k2 := gf 7
          have k3 := gf 8
          have k4 := gf 9
          simp only [List.getElem?_toArray, List.getElem?_cons_succ, List.getElem?_cons_zero] at g0 g1 g2 g3 g4
          clear g gf
          go_wp2
          go_roundw
          case rel =>
            have hoth : ∀ b, b ≠ N → (((((wy.setCell ⟨N, 5, none⟩ (.string numB)).setCell ⟨N, 6, none⟩ (.int .i64 5)).setCell ⟨N, 7, none⟩ (.int .i64 1)).setCell ⟨N, 8, none⟩ (.string nilB)).setCell ⟨N, 9, none⟩ (.slice none 0 0)).heap[b]? = wy.heap[b]? := fun b hb =>
              (heap_setCell_other _ _ _ _ hb).trans ((heap_setCell_other _ _ _ _ hb).trans ((heap_setCell_other _ _ _ _ hb).trans ((heap_setCell_other _ _ _ _ hb).trans (heap_setCell_other _ _ _ _ hb))))
            have hn0 := HN0.out
            have hn1 := HN1.out
            have hsz := HXR.out.size
            have hln := HLN.out
            refine ⟨1 + 1, by go_num, by omega, fun b hb => (hoth b (by omega)).trans ((hy.block b (by omega)).trans (HBL.out b hb)), ?_, (hoth p10 (by omega)).trans ((hy.block _ (Rg.lt_of_heap HPr.out)).trans HPs.out), .inr ⟨hln, N, rfl, hn0, hn1, _, heap_setCell_same _ N 9 _ 29 _ (heap_setCell_same _ N 8 _ 29 _ (heap_setCell_same _ N 7 _ 29 _ (heap_setCell_same _ N 6 _ 29 _ (heap_setCell_same wy N 5 _ 29 _ hNy)))), rfl⟩⟩
            first
              | exact Ext.setCell (Ext.setCell (Ext.setCell (Ext.setCell (Ext.setCell (HXR.out.trans hy) hn0 _) hn0 _) hn0 _) hn0 _) hn0 _
              | exact Ext.drew (Ext.setCell (Ext.setCell (Ext.setCell (Ext.setCell (Ext.setCell (HXR.out.trans hy) hn0 _) hn0 _) hn0 _) hn0 _) hn0 _)
          case measure => have hln := HLN.out; simp [intOf]; omega
        · skip
          clear d4 l10
          have HB := Lib.hid (fun b (hb : b < w6.heap.size) => (HBL.out b hb).trans (HX8.out.block b hb))
          have HXc := Lib.hid (HX4.out.trans HXR.out)
          rename World => wo
          obtain ⟨h6c, h7c, hrc, hrc', hvc, huc⟩ := HST.out _ HB.out
          obtain ⟨c6, -, l6⟩ := Rg.cells_of h6c
          have a0 : wo.cell? ⟨p6, 0, none⟩ = some (.string op) := c6 0
          have a1 : wo.cell? ⟨p6, 1, none⟩ = some (.int .i64 m1) := c6 1
          have a2 : wo.cell? ⟨p6, 2, none⟩ = some (.int .i64 m2) := c6 2
          have a3 : wo.cell? ⟨p6, 3, none⟩ = some (.string nm) := c6 3
          have a4 : wo.cell? ⟨p6, 4, none⟩ = some (.slice base len capt) := c6 4
          clear c6
          have H6c := Lib.hid h6c; have H7c := Lib.hid h7c; have HRc := Lib.hid hrc; have HRc' := Lib.hid hrc'; have HVc := Lib.hid hvc; have HUc := Lib.hid huc
          clear h6c h7c hrc hrc' hvc huc
          go_upto_region 12 with (go_at_call 17; (with_reducible refine (eval_any All vs te _ _ _ HRc.out HVc.out).mono ?_); rintro e w11 ⟨rfl, hx11⟩)
          have HX11 := Lib.hid hx11
          have h6d := (hx11.block _ (Rg.lt_of_heap H6c.out)).trans H6c.out
          clear hx11 a0 a1 a2 a3 a4 l6
          obtain ⟨m, hm, hml⟩ : ∃ m : Nat, min (vs.length : Int) 2 = (m : Int) ∧ m ≤ vs.length := by
            rcases Nat.lt_or_ge vs.length 2 with h | h
            · exact ⟨vs.length, by omega, Nat.le_refl _⟩
            · exact ⟨2, by omega, h⟩
          have HML := Lib.hid hml
          have hmc : (m : Int) ≤ (cp : Int) := by have := HCP.out; omega
          have hm0 : (0 : Int) ≤ (m : Int) := by omega
          have hcp : (vs.length : Int) ≤ (cp : Int) := by have := HCP.out; omega
          clear hml
          refine Rr.wp_region ((List.range 8).map (fun i => (i, .y))) (fun _ => (.cells #[] 29, Rg.ptr)) (by kernel_rfl) (by kernel_rfl) ?_
          simp only [List.range, List.range.loop, List.map_cons, List.map_nil]
          (refine Rr.wr_y (by simp only [List.getElem?_toArray, List.getElem?_cons_succ, List.getElem?_cons_zero]; rfl) (by rfl) ?_
           apply Exists.intro
           refine ⟨fun wz hw _ => ?_, ?_⟩
           · have hcz := hw.cells.1
             exact up_row (by rfl) ((hw.block _ (Rg.lt_of_heap h6d)).trans h6d) Try.underlying29 (by kernel_rfl)
           simp only [Act.put, List.setIfInBounds_toArray, List.set_cons_zero, List.set_cons_succ])
          (refine Rr.wr_y (by simp only [List.getElem?_toArray, List.getElem?_cons_succ, List.getElem?_cons_zero]; rfl) (by rfl) ?_
           apply Exists.intro
           refine ⟨fun wz hw _ => ?_, ?_⟩
           · have hcz := hw.cells.1
             go_simp
             (with_reducible exact Rg.up_value)
           simp only [Act.put, List.setIfInBounds_toArray, List.set_cons_zero, List.set_cons_succ])
          (refine Rr.wr_y (by simp only [List.getElem?_toArray, List.getElem?_cons_succ, List.getElem?_cons_zero]; rfl) (by rfl) ?_
           apply Exists.intro
           refine ⟨fun wz hw _ => ?_, ?_⟩
           · have hcz := hw.cells.1
             go_simp
             (with_reducible exact Rg.up_value)
           simp only [Act.put, List.setIfInBounds_toArray, List.set_cons_zero, List.set_cons_succ])
          (refine Rr.wr_y (by simp only [List.getElem?_toArray, List.getElem?_cons_succ, List.getElem?_cons_zero]; rfl) (by rfl) ?_
           apply Exists.intro
           refine ⟨fun wz hw _ => ?_, ?_⟩
           · have hcz := hw.cells.1
             go_simp
             (with_reducible exact Rg.up_value)
           simp only [Act.put, List.setIfInBounds_toArray, List.set_cons_zero, List.set_cons_succ])
          (refine Rr.wr_y (by simp only [List.getElem?_toArray, List.getElem?_cons_succ, List.getElem?_cons_zero]; rfl) (by rfl) ?_
           apply Exists.intro
           refine ⟨fun wz hw _ => ?_, ?_⟩
           · have hcz := hw.cells.1
             go_simp
             (with_reducible exact Rg.up_value)
           simp only [Act.put, List.setIfInBounds_toArray, List.set_cons_zero, List.set_cons_succ])
          (refine Rr.wr_y (by simp only [List.getElem?_toArray, List.getElem?_cons_succ, List.getElem?_cons_zero]; rfl) (by rfl) ?_
           apply Exists.intro
           refine ⟨fun wz hw _ => ?_, ?_⟩
           · have hcz := hw.cells.1
             go_simp
             (with_reducible exact Rg.up_value)
           simp only [Act.put, List.setIfInBounds_toArray, List.set_cons_zero, List.set_cons_succ])
          (refine Rr.wr_y (by simp only [List.getElem?_toArray, List.getElem?_cons_succ, List.getElem?_cons_zero]; rfl) (by rfl) ?_
           apply Exists.intro
           refine ⟨fun wz hw _ => ?_, ?_⟩
           · have hcz := hw.cells.1
             go_simp
             (with_reducible exact Rg.up_value)
           simp only [Act.put, List.setIfInBounds_toArray, List.set_cons_zero, List.set_cons_succ])
          (refine Rr.wr_y (by simp only [List.getElem?_toArray, List.getElem?_cons_succ, List.getElem?_cons_zero]; rfl) (by rfl) ?_
           apply Exists.intro
           refine ⟨fun wz hw _ => ?_, ?_⟩
           · have hcz := hw.cells.1
             go_simp
             (with_reducible exact Rg.up_value)
           simp only [Act.put, List.setIfInBounds_toArray, List.set_cons_zero, List.set_cons_succ])
          refine Rr.wr_nil ?_
          intro wy hy hh
          simp only [List.length_cons, List.length_nil, List.drop_succ_cons, List.drop_zero, Nat.reduceAdd]
          clear hh hm hmc hm0 hcp h6d
          go_upto_region 13 with (go_at_call 32; (with_reducible refine (points_any (vs.take m) te 0 1 (by decide) (by decide) wy (.string nilB) (.slice none 0 0) (.slice none 0 0) (.slice none 0 0) (.int .i64 0) (.int .i64 0) (.string op) (.int .i64 m1) (.int .i64 m2) (.string nm) (.slice base len capt) (.slice none 0 0) (.int .i64 0) (.slice none 0 0) (.int .i64 0) (.int .i64 0) (.int .i64 0) (.int .i64 0) (.int .i64 0) (.int .i64 0) (.int .i64 0) (.int .i64 0) (.int .i64 0) (.slice A m cp) (HRc.out.ext (HX11.out.trans hy)) ((HVc.out.cut m HML.out).ext (HX11.out.trans hy)) (by rw [List.length_take]; have := HVL.out; omega)).mono ?_); rintro e w13 ⟨rfl, hx13⟩)
          have HX13 := Lib.hid (HX11.out.trans (hy.trans hx13))
          clear hx13 hy
          have HC2 : Hid (∀ W, Ext wo W → ∀ k (hk : k < vs.length), ∃ b b', A = some ⟨b, 0, none⟩ ∧ A' = some ⟨b', 0, none⟩ ∧ b < W.heap.size ∧ b' < W.heap.size ∧ W.cell? ⟨b, k * 2, none⟩ = some (.string vs[k].1) ∧ W.cell? ⟨b, k * 2 + 1, none⟩ = some (.int .i64 vs[k].2) ∧ W.cell? ⟨b', k * 2, none⟩ = some (.string vs[k].1) ∧ W.cell? ⟨b', k * 2 + 1, none⟩ = some (.int .i64 vs[k].2)) := Lib.hid fun W hW k hk => by
            obtain ⟨_, _, e, -, -, h⟩ := HVc.out
            obtain ⟨_, _, e', -, -, h'⟩ := HUc.out
            injection e with e1 _ _
            injection e' with e1' _ _
            subst e1 e1'
            obtain ⟨b, hb, -, hc⟩ := h.resolve_left (by intro e; rw [e] at hk; cases hk)
            obtain ⟨b', hb', -, hc'⟩ := h'.resolve_left (by intro e; rw [e] at hk; cases hk)
            have l1 := World.block_lt_of_cell? _ _ (hc k hk).1
            have l2 := World.block_lt_of_cell? _ _ (hc' k hk).1
            exact ⟨b, b', hb, hb', Nat.lt_of_lt_of_le l1 hW.size, Nat.lt_of_lt_of_le l2 hW.size, (hW.cells.1 _ _ l1).trans (hc k hk).1, (hW.cells.1 _ _ l1).trans (hc k hk).2, (hW.cells.1 _ _ l2).trans (hc' k hk).1, (hW.cells.1 _ _ l2).trans (hc' k hk).2⟩
          have hvn : (vs.length : Int) ≤ 9223372036854775807 := by have := HVL.out; omega
          go_wp2_with (fail)
          go_loopw [53] (fun k ws => ∃ j : Nat, k = .int .i64 j ∧ j ≤ vs.length ∧ Ext wo ws) (fun k _ => vs.length - (intOf k).toNat)
          case atStart => exact ⟨0, rfl, Nat.zero_le _, HX13.out⟩
          case round =>
            obtain ⟨i, rfl, hi, hxs⟩ := hrel
            have HXS := Lib.hid hxs
            clear hxs
            rcases Nat.lt_or_ge i vs.length with hlt | hge
            · obtain ⟨b, b', rfl, rfl, lb, lb', g0, g1, g2, g3⟩ := HC2.out wr HXS.out i hlt
              have hlt' : (i : Int) < (vs.length : Int) := by omega
              have hi0 : (0 : Int) ≤ (i : Int) := by omega
              have kw : IntKind.i64.wrap ((i : Int) + 1) = (i : Int) + 1 := by rw [IntKind.wrap_i64]; omega
              generalize vs[i].1 = s1 at *
              generalize vs[i].2 = z1 at *
              have HN := fun w => neq51 s1 z1 w
              go_wp2_with (fail)
              refine Rr.wp_region ((List.range 8).map (fun i => (i, .y))) (fun _ => (.cells #[] 29, Rg.ptr)) (by kernel_rfl) (by kernel_rfl) ?_
              simp only [List.range, List.range.loop, List.map_cons, List.map_nil]
              (refine Rr.wr_y (by simp only [List.getElem?_toArray, List.getElem?_cons_succ, List.getElem?_cons_zero]; rfl) (by rfl) ?_
               apply Exists.intro
               refine ⟨fun wz hw _ => ?_, ?_⟩
               · have hcz := hw.cells.1
                 go_simp
                 (with_reducible exact Rg.up_value)
               simp only [Act.put, List.setIfInBounds_toArray, List.set_cons_zero, List.set_cons_succ])
              (refine Rr.wr_y (by simp only [List.getElem?_toArray, List.getElem?_cons_succ, List.getElem?_cons_zero]; rfl) (by rfl) ?_
               apply Exists.intro
               refine ⟨fun wz hw _ => ?_, ?_⟩
               · have hcz := hw.cells.1
                 go_simp
                 (with_reducible exact Rg.up_value)
               simp only [Act.put, List.setIfInBounds_toArray, List.set_cons_zero, List.set_cons_succ])
              (refine Rr.wr_y (by simp only [List.getElem?_toArray, List.getElem?_cons_succ, List.getElem?_cons_zero]; rfl) (by rfl) ?_
               apply Exists.intro
               refine ⟨fun wz hw _ => ?_, ?_⟩
               · have hcz := hw.cells.1
                 go_simp
                 (with_reducible exact Rg.up_value)
               simp only [Act.put, List.setIfInBounds_toArray, List.set_cons_zero, List.set_cons_succ])
              (refine Rr.wr_y (by simp only [List.getElem?_toArray, List.getElem?_cons_succ, List.getElem?_cons_zero]; rfl) (by rfl) ?_
               apply Exists.intro
               refine ⟨fun wz hw _ => ?_, ?_⟩
               · have hcz := hw.cells.1
                 go_simp
                 (with_reducible exact Rg.up_value)
               simp only [Act.put, List.setIfInBounds_toArray, List.set_cons_zero, List.set_cons_succ])
              (refine Rr.wr_y (by simp only [List.getElem?_toArray, List.getElem?_cons_succ, List.getElem?_cons_zero]; rfl) (by rfl) ?_
               apply Exists.intro
               refine ⟨fun wz hw _ => ?_, ?_⟩
               · have hcz := hw.cells.1
                 go_simp
                 (with_reducible exact Rg.up_value)
               simp only [Act.put, List.setIfInBounds_toArray, List.set_cons_zero, List.set_cons_succ])
              (refine Rr.wr_y (by simp only [List.getElem?_toArray, List.getElem?_cons_succ, List.getElem?_cons_zero]; rfl) (by rfl) ?_
               apply Exists.intro
               refine ⟨fun wz hw _ => ?_, ?_⟩
               · have hcz := hw.cells.1
                 go_simp
                 (with_reducible exact Rg.up_value)
               simp only [Act.put, List.setIfInBounds_toArray, List.set_cons_zero, List.set_cons_succ])
              (refine Rr.wr_y (by simp only [List.getElem?_toArray, List.getElem?_cons_succ, List.getElem?_cons_zero]; rfl) (by rfl) ?_
               apply Exists.intro
               refine ⟨fun wz hw _ => ?_, ?_⟩
               · have hcz := hw.cells.1
                 go_simp
                 (with_reducible exact Rg.up_value)
               simp only [Act.put, List.setIfInBounds_toArray, List.set_cons_zero, List.set_cons_succ])
              (refine Rr.wr_y (by simp only [List.getElem?_toArray, List.getElem?_cons_succ, List.getElem?_cons_zero]; rfl) (by rfl) ?_
               apply Exists.intro
               refine ⟨fun wz hw _ => ?_, ?_⟩
               · have hcz := hw.cells.1
                 go_simp
                 (with_reducible exact Rg.up_value)
               simp only [Act.put, List.setIfInBounds_toArray, List.set_cons_zero, List.set_cons_succ])
              refine Rr.wr_nil ?_
              intro wy hy hh
              simp only [List.length_cons, List.length_nil, List.drop_succ_cons, List.drop_zero, Nat.reduceAdd]
              clear hh
              go_wp2
              go_roundw
              case rel => exact ⟨i + 1, by go_num, by omega, HXS.out.trans hy⟩
              case measure => simp [intOf]; omega
            · have hge' : ¬ (i : Int) < (vs.length : Int) := by omega
              have h6e := (HXS.out.block _ (Rg.lt_of_heap H6c.out)).trans H6c.out
              have h7e := (HXS.out.block _ (Rg.lt_of_heap H7c.out)).trans H7c.out
              obtain ⟨c6, -, l6⟩ := Rg.cells_of h6e
              obtain ⟨c7, -, l7⟩ := Rg.cells_of h7e
              have a0 : wr.cell? ⟨p6, 0, none⟩ = some (.string op) := c6 0
              have a1 : wr.cell? ⟨p6, 1, none⟩ = some (.int .i64 m1) := c6 1
              have a2 : wr.cell? ⟨p6, 2, none⟩ = some (.int .i64 m2) := c6 2
              have a3 : wr.cell? ⟨p6, 3, none⟩ = some (.string nm) := c6 3
              have a4 : wr.cell? ⟨p6, 4, none⟩ = some (.slice base len capt) := c6 4
              clear c6
              have b0 : wr.cell? ⟨p7, 0, none⟩ = some (.string op') := c7 0
              have b1 : wr.cell? ⟨p7, 1, none⟩ = some (.int .i64 m1') := c7 1
              have b2 : wr.cell? ⟨p7, 2, none⟩ = some (.int .i64 m2') := c7 2
              have b3 : wr.cell? ⟨p7, 3, none⟩ = some (.string nm') := c7 3
              have b4 : wr.cell? ⟨p7, 4, none⟩ = some (.slice base' len' capt') := c7 4
              clear c7 h6e h7e
              go_wp2_with (go_at_call 20; (with_reducible refine (same_any All All te.depth te (Nat.le_refl _) _ _ _ (HRc.out.ext HXS.out) (HRc'.out.ext HXS.out)).mono ?_); rintro e w20 ⟨rfl, hx20⟩)
              go_ret
              exact ⟨rfl, HXc.out.trans (HXS.out.trans hx20)⟩
  · have hne : (wrongI te == 0) = false := by rw [beq_eq_false_iff_ne]; exact hw0
    have HSI := Lib.hid (simplify_any All All te w6 _ HR24.out (fun _ => HR24.out) (fun _ _ => trivial))
    clear hw0
    generalize wrongI te = kk at *
    go_upto_region 5 with (go_at_call 19; (with_reducible refine (HSI.out).mono ?_); rintro e w7 ⟨u7, rfl, hx7, hr7⟩; obtain ⟨op7, z1, z2, nm7, bs7, ln7, ct7, hform⟩ := hr7.form; subst hform)
    have hx8 : Ext w6 (w7.alloc (.cells #[.string op7, .int .i64 z1, .int .i64 z2, .string nm7, .slice bs7 ln7 ct7] 29)) := (by with_reducible repeat (first | exact Ext.refl _ | assumption | apply Ext.drewN | apply Ext.drew | apply Ext.alloc | (refine Ext.setCell ?_ (by simp <;> omega) _) | (refine Ext.trans ?_ (by assumption))))
    have HX8 := Lib.hid hx8
    clear hr7 hx7 hx8 a0 a1 a2 a3 a4 l6 HSI
    generalize w7.alloc (.cells #[.string op7, .int .i64 z1, .int .i64 z2, .string nm7, .slice bs7 ln7 ct7] 29) = W8 at *
    generalize w7.heap.size = p10 at *
    obtain ⟨h68, -, hr8, -, -, -⟩ := HST.out W8 (fun b hb => HX8.out.block b hb)
    obtain ⟨c6, -, l6⟩ := Rg.cells_of h68
    have a0 : W8.cell? ⟨p6, 0, none⟩ = some (.string op) := c6 0
    have a1 : W8.cell? ⟨p6, 1, none⟩ = some (.int .i64 m1) := c6 1
    have a2 : W8.cell? ⟨p6, 2, none⟩ = some (.int .i64 m2) := c6 2
    have a3 : W8.cell? ⟨p6, 3, none⟩ = some (.string nm) := c6 3
    have a4 : W8.cell? ⟨p6, 4, none⟩ = some (.slice base len capt) := c6 4
    clear c6
    have HR8 := Lib.hid hr8
    clear h68 hr8
    go_upto_region 11 with (go_at_call 34; (with_reducible refine (HWR.out _ HR8.out).mono ?_); rintro e w9 ⟨rfl, hx9⟩)
    have HB := Lib.hid (fun b (hb : b < w6.heap.size) => (hx9.block b (Nat.lt_of_lt_of_le hb HX8.out.size)).trans (HX8.out.block b hb))
    have HXc := Lib.hid (HX4.out.trans (HX8.out.trans hx9))
    clear hx9 a0 a1 a2 a3 a4 l6 hne
    rename World => wo
    obtain ⟨h6c, h7c, hrc, hrc', hvc, huc⟩ := HST.out _ HB.out
    obtain ⟨c6, -, l6⟩ := Rg.cells_of h6c
    have a0 : wo.cell? ⟨p6, 0, none⟩ = some (.string op) := c6 0
    have a1 : wo.cell? ⟨p6, 1, none⟩ = some (.int .i64 m1) := c6 1
    have a2 : wo.cell? ⟨p6, 2, none⟩ = some (.int .i64 m2) := c6 2
    have a3 : wo.cell? ⟨p6, 3, none⟩ = some (.string nm) := c6 3
    have a4 : wo.cell? ⟨p6, 4, none⟩ = some (.slice base len capt) := c6 4
    clear c6
    have H6c := Lib.hid h6c; have H7c := Lib.hid h7c; have HRc := Lib.hid hrc; have HRc' := Lib.hid hrc'; have HVc := Lib.hid hvc; have HUc := Lib.hid huc
    clear h6c h7c hrc hrc' hvc huc
    go_upto_region 12 with (go_at_call 17; (with_reducible refine (eval_any All vs te _ _ _ HRc.out HVc.out).mono ?_); rintro e w11 ⟨rfl, hx11⟩)
    have HX11 := Lib.hid hx11
    have h6d := (hx11.block _ (Rg.lt_of_heap H6c.out)).trans H6c.out
    clear hx11 a0 a1 a2 a3 a4 l6
    obtain ⟨m, hm, hml⟩ : ∃ m : Nat, min (vs.length : Int) 2 = (m : Int) ∧ m ≤ vs.length := by
      rcases Nat.lt_or_ge vs.length 2 with h | h
      · exact ⟨vs.length, by omega, Nat.le_refl _⟩
      · exact ⟨2, by omega, h⟩
    have HML := Lib.hid hml
    have hmc : (m : Int) ≤ (cp : Int) := by have := HCP.out; omega
    have hm0 : (0 : Int) ≤ (m : Int) := by omega
    have hcp : (vs.length : Int) ≤ (cp : Int) := by have := HCP.out; omega
    clear hml
    refine Rr.wp_region ((List.range 8).map (fun i => (i, .y))) (fun _ => (.cells #[] 29, Rg.ptr)) (by kernel_rfl) (by kernel_rfl) ?_
    simp only [List.range, List.range.loop, List.map_cons, List.map_nil]
    (refine Rr.wr_y (by simp only [List.getElem?_toArray, List.getElem?_cons_succ, List.getElem?_cons_zero]; rfl) (by rfl) ?_
     apply Exists.intro
     refine ⟨fun wz hw _ => ?_, ?_⟩
     · have hcz := hw.cells.1
       exact up_row (by rfl) ((hw.block _ (Rg.lt_of_heap h6d)).trans h6d) Try.underlying29 (by kernel_rfl)
     simp only [Act.put, List.setIfInBounds_toArray, List.set_cons_zero, List.set_cons_succ])
    (refine Rr.wr_y (by simp only [List.getElem?_toArray, List.getElem?_cons_succ, List.getElem?_cons_zero]; rfl) (by rfl) ?_
     apply Exists.intro
     refine ⟨fun wz hw _ => ?_, ?_⟩
     · have hcz := hw.cells.1
       go_simp
       (with_reducible exact Rg.up_value)
     simp only [Act.put, List.setIfInBounds_toArray, List.set_cons_zero, List.set_cons_succ])
    (refine Rr.wr_y (by simp only [List.getElem?_toArray, List.getElem?_cons_succ, List.getElem?_cons_zero]; rfl) (by rfl) ?_
     apply Exists.intro
     refine ⟨fun wz hw _ => ?_, ?_⟩
     · have hcz := hw.cells.1
       go_simp
       (with_reducible exact Rg.up_value)
     simp only [Act.put, List.setIfInBounds_toArray, List.set_cons_zero, List.set_cons_succ])
    (refine Rr.wr_y (by simp only [List.getElem?_toArray, List.getElem?_cons_succ, List.getElem?_cons_zero]; rfl) (by rfl) ?_
     apply Exists.intro
     refine ⟨fun wz hw _ => ?_, ?_⟩
     · have hcz := hw.cells.1
       go_simp
       (with_reducible exact Rg.up_value)
     simp only [Act.put, List.setIfInBounds_toArray, List.set_cons_zero, List.set_cons_succ])
    (refine Rr.wr_y (by simp only [List.getElem?_toArray, List.getElem?_cons_succ, List.getElem?_cons_zero]; rfl) (by rfl) ?_
     apply Exists.intro
     refine ⟨fun wz hw _ => ?_, ?_⟩
     · have hcz := hw.cells.1
       go_simp
       (with_reducible exact Rg.up_value)
     simp only [Act.put, List.setIfInBounds_toArray, List.set_cons_zero, List.set_cons_succ])
    (refine Rr.wr_y (by simp only [List.getElem?_toArray, List.getElem?_cons_succ, List.getElem?_cons_zero]; rfl) (by rfl) ?_
     apply Exists.intro
     refine ⟨fun wz hw _ => ?_, ?_⟩
     · have hcz := hw.cells.1
       go_simp
       (with_reducible exact Rg.up_value)
     simp only [Act.put, List.setIfInBounds_toArray, List.set_cons_zero, List.set_cons_succ])
    (refine Rr.wr_y (by simp only [List.getElem?_toArray, List.getElem?_cons_succ, List.getElem?_cons_zero]; rfl) (by rfl) ?_
     apply Exists.intro
     refine ⟨fun wz hw _ => ?_, ?_⟩
     · have hcz := hw.cells.1
       go_simp
       (with_reducible exact Rg.up_value)
     simp only [Act.put, List.setIfInBounds_toArray, List.set_cons_zero, List.set_cons_succ])
    (refine Rr.wr_y (by simp only [List.getElem?_toArray, List.getElem?_cons_succ, List.getElem?_cons_zero]; rfl) (by rfl) ?_
     apply Exists.intro
     refine ⟨fun wz hw _ => ?_, ?_⟩
     · have hcz := hw.cells.1
       go_simp
       (with_reducible exact Rg.up_value)
     simp only [Act.put, List.setIfInBounds_toArray, List.set_cons_zero, List.set_cons_succ])
    refine Rr.wr_nil ?_
    intro wy hy hh
    simp only [List.length_cons, List.length_nil, List.drop_succ_cons, List.drop_zero, Nat.reduceAdd]
    clear hh hm hmc hm0 hcp h6d
    go_upto_region 13 with (go_at_call 32; (with_reducible refine (points_any (vs.take m) te 0 1 (by decide) (by decide) wy (.string nilB) (.slice none 0 0) (.slice none 0 0) (.slice none 0 0) (.int .i64 0) (.int .i64 0) (.string op) (.int .i64 m1) (.int .i64 m2) (.string nm) (.slice base len capt) (.slice none 0 0) (.int .i64 0) (.slice none 0 0) (.int .i64 0) (.int .i64 0) (.int .i64 0) (.int .i64 0) (.int .i64 0) (.int .i64 0) (.int .i64 0) (.int .i64 0) (.int .i64 0) (.slice A m cp) (HRc.out.ext (HX11.out.trans hy)) ((HVc.out.cut m HML.out).ext (HX11.out.trans hy)) (by rw [List.length_take]; have := HVL.out; omega)).mono ?_); rintro e w13 ⟨rfl, hx13⟩)
    have HX13 := Lib.hid (HX11.out.trans (hy.trans hx13))
    clear hx13 hy
    have HC2 : Hid (∀ W, Ext wo W → ∀ k (hk : k < vs.length), ∃ b b', A = some ⟨b, 0, none⟩ ∧ A' = some ⟨b', 0, none⟩ ∧ b < W.heap.size ∧ b' < W.heap.size ∧ W.cell? ⟨b, k * 2, none⟩ = some (.string vs[k].1) ∧ W.cell? ⟨b, k * 2 + 1, none⟩ = some (.int .i64 vs[k].2) ∧ W.cell? ⟨b', k * 2, none⟩ = some (.string vs[k].1) ∧ W.cell? ⟨b', k * 2 + 1, none⟩ = some (.int .i64 vs[k].2)) := Lib.hid fun W hW k hk => by
      obtain ⟨_, _, e, -, -, h⟩ := HVc.out
      obtain ⟨_, _, e', -, -, h'⟩ := HUc.out
      injection e with e1 _ _
      injection e' with e1' _ _
      subst e1 e1'
      obtain ⟨b, hb, -, hc⟩ := h.resolve_left (by intro e; rw [e] at hk; cases hk)
      obtain ⟨b', hb', -, hc'⟩ := h'.resolve_left (by intro e; rw [e] at hk; cases hk)
      have l1 := World.block_lt_of_cell? _ _ (hc k hk).1
      have l2 := World.block_lt_of_cell? _ _ (hc' k hk).1
      exact ⟨b, b', hb, hb', Nat.lt_of_lt_of_le l1 hW.size, Nat.lt_of_lt_of_le l2 hW.size, (hW.cells.1 _ _ l1).trans (hc k hk).1, (hW.cells.1 _ _ l1).trans (hc k hk).2, (hW.cells.1 _ _ l2).trans (hc' k hk).1, (hW.cells.1 _ _ l2).trans (hc' k hk).2⟩
    have hvn : (vs.length : Int) ≤ 9223372036854775807 := by have := HVL.out; omega
    go_wp2_with (fail)
    go_loopw [53] (fun k ws => ∃ j : Nat, k = .int .i64 j ∧ j ≤ vs.length ∧ Ext wo ws) (fun k _ => vs.length - (intOf k).toNat)
    case atStart => exact ⟨0, rfl, Nat.zero_le _, HX13.out⟩
    case round =>
      obtain ⟨i, rfl, hi, hxs⟩ := hrel
      have HXS := Lib.hid hxs
      clear hxs
      rcases Nat.lt_or_ge i vs.length with hlt | hge
      · obtain ⟨b, b', rfl, rfl, lb, lb', g0, g1, g2, g3⟩ := HC2.out wr HXS.out i hlt
        have hlt' : (i : Int) < (vs.length : Int) := by omega
        have hi0 : (0 : Int) ≤ (i : Int) := by omega
        have kw : IntKind.i64.wrap ((i : Int) + 1) = (i : Int) + 1 := by rw [IntKind.wrap_i64]; omega
        generalize vs[i].1 = s1 at *
        generalize vs[i].2 = z1 at *
        have HN := fun w => neq51 s1 z1 w
        go_wp2_with (fail)
        refine Rr.wp_region ((List.range 8).map (fun i => (i, .y))) (fun _ => (.cells #[] 29, Rg.ptr)) (by kernel_rfl) (by kernel_rfl) ?_
        simp only [List.range, List.range.loop, List.map_cons, List.map_nil]
        (refine Rr.wr_y (by simp only [List.getElem?_toArray, List.getElem?_cons_succ, List.getElem?_cons_zero]; rfl) (by rfl) ?_
         apply Exists.intro
         refine ⟨fun wz hw _ => ?_, ?_⟩
         · have hcz := hw.cells.1
           go_simp
           (with_reducible exact Rg.up_value)
         simp only [Act.put, List.setIfInBounds_toArray, List.set_cons_zero, List.set_cons_succ])
        (refine Rr.wr_y (by simp only [List.getElem?_toArray, List.getElem?_cons_succ, List.getElem?_cons_zero]; rfl) (by rfl) ?_
         apply Exists.intro
         refine ⟨fun wz hw _ => ?_, ?_⟩
         · have hcz := hw.cells.1
           go_simp
           (with_reducible exact Rg.up_value)
         simp only [Act.put, List.setIfInBounds_toArray, List.set_cons_zero, List.set_cons_succ])
        (refine Rr.wr_y (by simp only [List.getElem?_toArray, List.getElem?_cons_succ, List.getElem?_cons_zero]; rfl) (by rfl) ?_
         apply Exists.intro
         refine ⟨fun wz hw _ => ?_, ?_⟩
         · have hcz := hw.cells.1
           go_simp
           (with_reducible exact Rg.up_value)
         simp only [Act.put, List.setIfInBounds_toArray, List.set_cons_zero, List.set_cons_succ])
        (refine Rr.wr_y (by simp only [List.getElem?_toArray, List.getElem?_cons_succ, List.getElem?_cons_zero]; rfl) (by rfl) ?_
         apply Exists.intro
         refine ⟨fun wz hw _ => ?_, ?_⟩
         · have hcz := hw.cells.1
           go_simp
           (with_reducible exact Rg.up_value)
         simp only [Act.put, List.setIfInBounds_toArray, List.set_cons_zero, List.set_cons_succ])
        (refine Rr.wr_y (by simp only [List.getElem?_toArray, List.getElem?_cons_succ, List.getElem?_cons_zero]; rfl) (by rfl) ?_
         apply Exists.intro
         refine ⟨fun wz hw _ => ?_, ?_⟩
         · have hcz := hw.cells.1
           go_simp
           (with_reducible exact Rg.up_value)
         simp only [Act.put, List.setIfInBounds_toArray, List.set_cons_zero, List.set_cons_succ])
        (refine Rr.wr_y (by simp only [List.getElem?_toArray, List.getElem?_cons_succ, List.getElem?_cons_zero]; rfl) (by rfl) ?_
         apply Exists.intro
         refine ⟨fun wz hw _ => ?_, ?_⟩
         · have hcz := hw.cells.1
           go_simp
           (with_reducible exact Rg.up_value)
         simp only [Act.put, List.setIfInBounds_toArray, List.set_cons_zero, List.set_cons_succ])
        (refine Rr.wr_y (by simp only [List.getElem?_toArray, List.getElem?_cons_succ, List.getElem?_cons_zero]; rfl) (by rfl) ?_
         apply Exists.intro
         refine ⟨fun wz hw _ => ?_, ?_⟩
         · have hcz := hw.cells.1
           go_simp
           (with_reducible exact Rg.up_value)
         simp only [Act.put, List.setIfInBounds_toArray, List.set_cons_zero, List.set_cons_succ])
        (refine Rr.wr_y (by simp only [List.getElem?_toArray, List.getElem?_cons_succ, List.getElem?_cons_zero]; rfl) (by rfl) ?_
         apply Exists.intro
         refine ⟨fun wz hw _ => ?_, ?_⟩
         · have hcz := hw.cells.1
           go_simp
           (with_reducible exact Rg.up_value)
         simp only [Act.put, List.setIfInBounds_toArray, List.set_cons_zero, List.set_cons_succ])
        refine Rr.wr_nil ?_
        intro wy hy hh
        simp only [List.length_cons, List.length_nil, List.drop_succ_cons, List.drop_zero, Nat.reduceAdd]
        clear hh
        go_wp2
        go_roundw
        case rel => exact ⟨i + 1, by go_num, by omega, HXS.out.trans hy⟩
        case measure => simp [intOf]; omega
      · have hge' : ¬ (i : Int) < (vs.length : Int) := by omega
        have h6e := (HXS.out.block _ (Rg.lt_of_heap H6c.out)).trans H6c.out
        have h7e := (HXS.out.block _ (Rg.lt_of_heap H7c.out)).trans H7c.out
        obtain ⟨c6, -, l6⟩ := Rg.cells_of h6e
        obtain ⟨c7, -, l7⟩ := Rg.cells_of h7e
        have a0 : wr.cell? ⟨p6, 0, none⟩ = some (.string op) := c6 0
        have a1 : wr.cell? ⟨p6, 1, none⟩ = some (.int .i64 m1) := c6 1
        have a2 : wr.cell? ⟨p6, 2, none⟩ = some (.int .i64 m2) := c6 2
        have a3 : wr.cell? ⟨p6, 3, none⟩ = some (.string nm) := c6 3
        have a4 : wr.cell? ⟨p6, 4, none⟩ = some (.slice base len capt) := c6 4
        clear c6
        have b0 : wr.cell? ⟨p7, 0, none⟩ = some (.string op') := c7 0
        have b1 : wr.cell? ⟨p7, 1, none⟩ = some (.int .i64 m1') := c7 1
        have b2 : wr.cell? ⟨p7, 2, none⟩ = some (.int .i64 m2') := c7 2
        have b3 : wr.cell? ⟨p7, 3, none⟩ = some (.string nm') := c7 3
        have b4 : wr.cell? ⟨p7, 4, none⟩ = some (.slice base' len' capt') := c7 4
        clear c7 h6e h7e
        go_wp2_with (go_at_call 20; (with_reducible refine (same_any All All te.depth te (Nat.le_refl _) _ _ _ (HRc.out.ext HXS.out) (HRc'.out.ext HXS.out)).mono ?_); rintro e w20 ⟨rfl, hx20⟩)
        go_ret
        exact ⟨rfl, HXc.out.trans (HXS.out.trans hx20)⟩
end Go.Proofs.Ytgkdeknfmmgbdaa
