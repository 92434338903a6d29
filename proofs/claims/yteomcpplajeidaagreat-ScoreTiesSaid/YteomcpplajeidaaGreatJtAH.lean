/-
  Lemmas of this claim (JtAH). Nothing is asked.
-/
import Derived.Test.YteomcpplajeidaaGreatJtAG
import Derived.Test.YteomcpplajeidaaGreatJtV
import Derived.BigQuiet
import Derived.Deep.QuietTactic
import Derived.Test.YteomcpplajeidaaGreatJtQ
namespace Go.Proofs.YteomcpplajeidaaGreat
set_option linter.unusedVariables false
set_option linter.unusedSimpArgs false
set_option maxRecDepth 100000
open Go.RowKit
theorem call75 (a b : En) (sa sb : Sl) (w : World) : Calls Tryz.prog 75 #[.agg (enC a sa), .agg (enC b sb)] w fun e w' => e = .returned (.int .i64 (cmpZ b.price a.price)) ∧ Ext w w' := by
  have HC := Lib.hid (fun wz => Compare_i b.price a.price wz)
  obtain ⟨a0, a1, a2, a3, a4⟩ := a
  obtain ⟨b0, b1, b2, b3, b4⟩ := b
  simp only at HC ⊢
  generalize cmpZ b3 a3 = z at *
  go_enter Tryz.func75, Tryz.ntmps75
  go_wp2_with (go_at_call 72; (with_reducible refine (HC.out _).mono ?_); rintro e w1 ⟨rfl, rfl⟩)
  go_ret
  exact ⟨rfl, (by with_reducible repeat (first | exact Ext.refl _ | assumption | apply Ext.drewN | apply Ext.drew | apply Ext.alloc | (refine Ext.setCell ?_ (by simp <;> omega) _) | (refine Ext.trans ?_ (by assumption))))⟩
theorem call78 (a b : En) (sa sb : Sl) (w : World) : Calls Tryz.prog 78 #[.agg (enC a sa), .agg (enC b sb)] w fun e w' => e = .returned (.int .i64 0) ∧ Ext w w' := by
  obtain ⟨a0, a1, a2, a3, a4⟩ := a
  obtain ⟨b0, b1, b2, b3, b4⟩ := b
  go_enter Tryz.func78, Tryz.ntmps78
  go_wp2
  go_ret
  exact ⟨rfl, (by with_reducible repeat (first | exact Ext.refl _ | assumption | apply Ext.drewN | apply Ext.drew | apply Ext.alloc | (refine Ext.setCell ?_ (by simp <;> omega) _) | (refine Ext.trans ?_ (by assumption))))⟩
def val2 (s : Int) (x y : Option Int) : Int :=
  match x, y with
  | some n, some m => s * cmpZ n m
  | _, _ => 0
set_option maxHeartbeats 8000000 in
theorem call79 (a b : En) (sa sb : Sl) (nm : ByteArray) (s : Int) (hs : s = -1 ∨ s = 1) (p q : Nat) (w : World) (ha : VRd All w a.vs (slV sa)) (hb : VRd All w b.vs (slV sb)) (hp : w.cell? ⟨p, 0, none⟩ = some (.string nm)) (hq : w.cell? ⟨q, 0, none⟩ = some (.int .i64 s)) :
    Calls Tryz.prog 79 #[.agg (enC a sa), .agg (enC b sb), .pointer (some ⟨p, 0, none⟩), .pointer (some ⟨q, 0, none⟩)] w fun e w' => e = .returned (.int .i64 (val2 s (look a.vs nm) (look b.vs nm))) ∧ Ext w w' := by
  obtain ⟨a0, a1, a2, a3, va⟩ := a
  obtain ⟨b0, b1, b2, b3, vb⟩ := b
  simp only at ha hb ⊢
  have HA := Lib.hid (fun wz (hw : Ext w wz) => value80_any (.int .i64 a0) (.int .i64 a1) (.int .i64 a2) (.int .i64 a3) sa va nm wz (ha.ext hw))
  have HB := Lib.hid (fun wz (hw : Ext w wz) => value80_any (.int .i64 b0) (.int .i64 b1) (.int .i64 b2) (.int .i64 b3) sb vb nm wz (hb.ext hw))
  have hpl := World.block_lt_of_cell? w _ hp
  have hql := World.block_lt_of_cell? w _ hq
  have HPC := Lib.hid hp; have HQC := Lib.hid hq
  obtain ⟨x, hx⟩ : ∃ x, x = look va nm := ⟨_, rfl⟩
  obtain ⟨y, hy⟩ : ∃ y, y = look vb nm := ⟨_, rfl⟩
  unfold valV at HA HB
  rw [← hx] at HA ⊢
  rw [← hy] at HB ⊢
  clear hx hy ha hb
  have hb1 : ((w.alloc (.cells (enC ⟨a0, a1, a2, a3, va⟩ sa) 57)).alloc (.cells (enC ⟨b0, b1, b2, b3, vb⟩ sb) 57)).heap[w.heap.size]? = some (.cells (enC ⟨a0, a1, a2, a3, va⟩ sa) 57) := by rw [Below.heap_alloc _ _ _ (by simp)]; exact heap_alloc_new _ _
  have hb2 : ((w.alloc (.cells (enC ⟨a0, a1, a2, a3, va⟩ sa) 57)).alloc (.cells (enC ⟨b0, b1, b2, b3, vb⟩ sb) 57)).heap[w.heap.size + 1]? = some (.cells (enC ⟨b0, b1, b2, b3, vb⟩ sb) 57) := block_new (by simp)
  have hx1 : Ext w ((w.alloc (.cells (enC ⟨a0, a1, a2, a3, va⟩ sa) 57)).alloc (.cells (enC ⟨b0, b1, b2, b3, vb⟩ sb) 57)) := Ext.alloc (Ext.alloc (Ext.refl _) _) _
  go_enter Tryz.func79, Tryz.ntmps79
  go_upto_region 1 with (fail)
  have HK : Hid (∀ W, Ext w W → W.cell? ⟨p, 0, none⟩ = some (.string nm) ∧ W.cell? ⟨q, 0, none⟩ = some (.int .i64 s) ∧ p < W.heap.size ∧ q < W.heap.size) := Lib.hid fun W hW => ⟨(hW.cells.1 _ _ hpl).trans HPC.out, (hW.cells.1 _ _ hql).trans HQC.out, Nat.lt_of_lt_of_le hpl hW.size, Nat.lt_of_lt_of_le hql hW.size⟩
  simp only [enC, entC] at hb1 hb2 hx1
  generalize (w.alloc (.cells #[.int .i64 a0, .int .i64 a1, .int .i64 a2, .int .i64 a3, slV sa] 57)).alloc (.cells #[.int .i64 b0, .int .i64 b1, .int .i64 b2, .int .i64 b3, slV sb] 57) = W1 at *
  generalize w.heap.size + 1 = r at *
  generalize w.heap.size = g at *
  have HE : Hid (∀ W, Ext W1 W → W.heap[g]? = some (.cells #[.int .i64 a0, .int .i64 a1, .int .i64 a2, .int .i64 a3, slV sa] 57) ∧ W.heap[r]? = some (.cells #[.int .i64 b0, .int .i64 b1, .int .i64 b2, .int .i64 b3, slV sb] 57)) := Lib.hid fun W hW => ⟨(hW.block _ (Rg.lt_of_heap hb1)).trans hb1, (hW.block _ (Rg.lt_of_heap hb2)).trans hb2⟩
  have HX := Lib.hid hx1
  have HX0 := Lib.hid (Ext.refl W1)
  clear hb1 hb2 hx1 hpl hql hp hq
  obtain ⟨e0, e1, e2, e3, e4, -⟩ := cells_five (HE.out _ HX0.out).1; obtain ⟨f0, f1, f2, f3, f4, -⟩ := cells_five (HE.out _ HX0.out).2; obtain ⟨k0, k1, k2, k3⟩ := HK.out _ (HX.out.trans HX0.out); have l0 := Rg.lt_of_heap (HE.out _ HX0.out).1; have l1 := Rg.lt_of_heap (HE.out _ HX0.out).2
  cases x with
  | none =>
    cases y with
    | none =>
      go_wp2_with (first
    | (go_at_call 80; (with_reducible refine (HA.out _ (HX.out.trans HX0.out)).mono ?_); rintro e W2 ⟨rfl, hx2⟩; have HX0 := Lib.hid (HX0.out.trans hx2); clear hx2; obtain ⟨e0, e1, e2, e3, e4, -⟩ := cells_five (HE.out _ HX0.out).1; obtain ⟨f0, f1, f2, f3, f4, -⟩ := cells_five (HE.out _ HX0.out).2; obtain ⟨k0, k1, k2, k3⟩ := HK.out _ (HX.out.trans HX0.out); have l0 := Rg.lt_of_heap (HE.out _ HX0.out).1; have l1 := Rg.lt_of_heap (HE.out _ HX0.out).2)
    | (go_at_call 80; (with_reducible refine (HB.out _ (HX.out.trans HX0.out)).mono ?_); rintro e W2 ⟨rfl, hx2⟩; have HX0 := Lib.hid (HX0.out.trans hx2); clear hx2; obtain ⟨e0, e1, e2, e3, e4, -⟩ := cells_five (HE.out _ HX0.out).1; obtain ⟨f0, f1, f2, f3, f4, -⟩ := cells_five (HE.out _ HX0.out).2; obtain ⟨k0, k1, k2, k3⟩ := HK.out _ (HX.out.trans HX0.out); have l0 := Rg.lt_of_heap (HE.out _ HX0.out).1; have l1 := Rg.lt_of_heap (HE.out _ HX0.out).2))
      go_ret
      exact ⟨rfl, HX.out.trans HX0.out⟩
    | some m =>
      go_wp2_with (first
    | (go_at_call 80; (with_reducible refine (HA.out _ (HX.out.trans HX0.out)).mono ?_); rintro e W2 ⟨rfl, hx2⟩; have HX0 := Lib.hid (HX0.out.trans hx2); clear hx2; obtain ⟨e0, e1, e2, e3, e4, -⟩ := cells_five (HE.out _ HX0.out).1; obtain ⟨f0, f1, f2, f3, f4, -⟩ := cells_five (HE.out _ HX0.out).2; obtain ⟨k0, k1, k2, k3⟩ := HK.out _ (HX.out.trans HX0.out); have l0 := Rg.lt_of_heap (HE.out _ HX0.out).1; have l1 := Rg.lt_of_heap (HE.out _ HX0.out).2)
    | (go_at_call 80; (with_reducible refine (HB.out _ (HX.out.trans HX0.out)).mono ?_); rintro e W2 ⟨rfl, hx2⟩; have HX0 := Lib.hid (HX0.out.trans hx2); clear hx2; obtain ⟨e0, e1, e2, e3, e4, -⟩ := cells_five (HE.out _ HX0.out).1; obtain ⟨f0, f1, f2, f3, f4, -⟩ := cells_five (HE.out _ HX0.out).2; obtain ⟨k0, k1, k2, k3⟩ := HK.out _ (HX.out.trans HX0.out); have l0 := Rg.lt_of_heap (HE.out _ HX0.out).1; have l1 := Rg.lt_of_heap (HE.out _ HX0.out).2))
      go_ret
      exact ⟨rfl, HX.out.trans HX0.out⟩
  | some n =>
    cases y with
    | none =>
      go_wp2_with (first
    | (go_at_call 80; (with_reducible refine (HA.out _ (HX.out.trans HX0.out)).mono ?_); rintro e W2 ⟨rfl, hx2⟩; have HX0 := Lib.hid (HX0.out.trans hx2); clear hx2; obtain ⟨e0, e1, e2, e3, e4, -⟩ := cells_five (HE.out _ HX0.out).1; obtain ⟨f0, f1, f2, f3, f4, -⟩ := cells_five (HE.out _ HX0.out).2; obtain ⟨k0, k1, k2, k3⟩ := HK.out _ (HX.out.trans HX0.out); have l0 := Rg.lt_of_heap (HE.out _ HX0.out).1; have l1 := Rg.lt_of_heap (HE.out _ HX0.out).2)
    | (go_at_call 80; (with_reducible refine (HB.out _ (HX.out.trans HX0.out)).mono ?_); rintro e W2 ⟨rfl, hx2⟩; have HX0 := Lib.hid (HX0.out.trans hx2); clear hx2; obtain ⟨e0, e1, e2, e3, e4, -⟩ := cells_five (HE.out _ HX0.out).1; obtain ⟨f0, f1, f2, f3, f4, -⟩ := cells_five (HE.out _ HX0.out).2; obtain ⟨k0, k1, k2, k3⟩ := HK.out _ (HX.out.trans HX0.out); have l0 := Rg.lt_of_heap (HE.out _ HX0.out).1; have l1 := Rg.lt_of_heap (HE.out _ HX0.out).2))
      go_ret
      exact ⟨rfl, HX.out.trans HX0.out⟩
    | some m =>
      have HC := Lib.hid (fun wz => Compare_i n m wz)
      have HB3 := Lib.hid (cmpZ_bd n m)
      go_upto_region 4 with (first
        | (go_at_call 80; (with_reducible refine (HA.out _ (HX.out.trans HX0.out)).mono ?_); rintro e W2 ⟨rfl, hx2⟩; have HX0 := Lib.hid (HX0.out.trans hx2); clear hx2; obtain ⟨e0, e1, e2, e3, e4, -⟩ := cells_five (HE.out _ HX0.out).1; obtain ⟨f0, f1, f2, f3, f4, -⟩ := cells_five (HE.out _ HX0.out).2; obtain ⟨k0, k1, k2, k3⟩ := HK.out _ (HX.out.trans HX0.out); have l0 := Rg.lt_of_heap (HE.out _ HX0.out).1; have l1 := Rg.lt_of_heap (HE.out _ HX0.out).2)
        | (go_at_call 80; (with_reducible refine (HB.out _ (HX.out.trans HX0.out)).mono ?_); rintro e W2 ⟨rfl, hx2⟩; have HX0 := Lib.hid (HX0.out.trans hx2); clear hx2; obtain ⟨e0, e1, e2, e3, e4, -⟩ := cells_five (HE.out _ HX0.out).1; obtain ⟨f0, f1, f2, f3, f4, -⟩ := cells_five (HE.out _ HX0.out).2; obtain ⟨k0, k1, k2, k3⟩ := HK.out _ (HX.out.trans HX0.out); have l0 := Rg.lt_of_heap (HE.out _ HX0.out).1; have l1 := Rg.lt_of_heap (HE.out _ HX0.out).2))
      have hwm : IntKind.i64.wrap (s * cmpZ n m) = s * cmpZ n m := by
        have := HB3.out
        rw [IntKind.wrap_i64]
        rcases hs with rfl | rfl <;> omega
      have HV : Hid (val2 s (some n) (some m) = s * cmpZ n m) := Lib.hid rfl
      generalize cmpZ n m = z at *
      go_quiet (first | (go_at_call 72; (with_reducible refine Calls.quiet_of_same ((HC.out _).mono fun _ _ h => ⟨h.1, h.2.symm⟩))))
      go_wp2_with (fail)
      go_ret
      exact ⟨by rw [HV.out]; rfl, HX.out.trans (HX0.out.trans (by with_reducible repeat (first | exact Ext.refl _ | assumption | apply Ext.drewN | apply Ext.drew | apply Ext.alloc | (refine Ext.setCell ?_ (by simp <;> omega) _) | (refine Ext.trans ?_ (by assumption)))))⟩
theorem tie_val (cs : List Cr) (nm : ByteArray) (a b : En) : tieF cs nm a b = if (nm.toList == [112, 114, 105, 99, 101]) = true then cmpZ b.price a.price else match crF cs nm with | none => 0 | some c => val2 (if c.less then -1 else 1) (look a.vs nm) (look b.vs nm) := by
  unfold tieF val2
  split
  · rfl
  · cases crF cs nm with
    | none => rfl
    | some c => cases look a.vs nm <;> cases look b.vs nm <;> rfl
end Go.Proofs.YteomcpplajeidaaGreat
namespace Go.Proofs.YteomcpplajeidaaGreat
set_option linter.unusedVariables false
set_option linter.unusedSimpArgs false
set_option maxRecDepth 100000
open Go.RowKit
def tiesF (cs : List Cr) (a b : En) : List ByteArray → Bool
  | [] => decide (a.rec_ < b.rec_)
  | nm :: l => if tieF cs nm a b = 0 then tiesF cs a b l else decide (0 < tieF cs nm a b)
def betF (cs : List Cr) (ts : List ByteArray) (a b : En) (p q : Int × Int) : Bool :=
  if cmpI p q = 0 then tiesF cs a b ts else decide (0 < cmpI p q)
theorem tiesF_drop (cs : List Cr) (a b : En) (ts : List ByteArray) (k : Nat) (h : k < ts.length) : tiesF cs a b (ts.drop k) = if tieF cs ts[k] a b = 0 then tiesF cs a b (ts.drop (k + 1)) else decide (0 < tieF cs ts[k] a b) := by
  rw [List.drop_eq_getElem_cons h, tiesF]
theorem al {w : World} {g : Nat} {o o' : Obj} (h : w.heap[g]? = some o) : (w.alloc o').heap[g]? = some o := ((Ext.alloc (Ext.refl w) o').block _ (Rg.lt_of_heap h)).trans h
set_option maxHeartbeats 8000000 in
theorem Better_any (r : TnR) (cs : List Cr) (ts : List ByteArray) (a b : En) (sa sb : Sl) (p q : Int × Int) (hp : I2 p) (hq : I2 q) (w : World) (h2 : SR cellsCr 5 w (slV r.cs) cs) (h4 : SR strC 1 w (slV r.ts) ts) (ha : VRd All w a.vs (slV sa)) (hb : VRd All w b.vs (slV sb)) :
    Calls Tryz.prog 20 #[.agg (tenC r), .agg (enC a sa), .agg (enC b sb), rv p, rv q] w fun e w' => e = .returned (.bool (betF cs ts a b p q)) ∧ Ext w w' := by
  obtain ⟨p1, p2⟩ := p
  obtain ⟨q1, q2⟩ := q
  have HCM := Lib.hid (fun wz => Cmp_any (p1, p2) (q1, q2) hp hq wz)
  have HC := Lib.hid h2; have HTS := Lib.hid h4; have HA := Lib.hid ha; have HB := Lib.hid hb
  have HBF : Hid (betF cs ts a b (p1, p2) (q1, q2) = if cmpI (p1, p2) (q1, q2) = 0 then tiesF cs a b ts else decide (0 < cmpI (p1, p2) (q1, q2))) := Lib.hid rfl
  generalize cmpI (p1, p2) (q1, q2) = cm at *
  obtain ⟨W1, hW1⟩ : ∃ W1, W1 = ((((w.alloc (.cells (tenC r) 39)).alloc (.cells (enC a sa) 57)).alloc (.cells (enC b sb) 57)).alloc (.cells #[.int .i64 p1, .int .i64 p2] 30)).alloc (.cells #[.int .i64 q1, .int .i64 q2] 30) := ⟨_, rfl⟩
  have hx1 : Ext w W1 := by rw [hW1]; exact Ext.alloc (Ext.alloc (Ext.alloc (Ext.alloc (Ext.alloc (Ext.refl _) _) _) _) _) _
  have g5 : W1.heap[w.heap.size]? = some (.cells (tenC r) 39) := by rw [hW1]; exact al (al (al (al (block_new rfl))))
  have g6 : W1.heap[w.heap.size + 1]? = some (.cells (enC a sa) 57) := by rw [hW1]; exact al (al (al (block_new (by simp))))
  have g7 : W1.heap[w.heap.size + 1 + 1]? = some (.cells (enC b sb) 57) := by rw [hW1]; exact al (al (block_new (by simp)))
  have g8 : W1.heap[w.heap.size + 1 + 1 + 1]? = some (.cells #[.int .i64 p1, .int .i64 p2] 30) := by rw [hW1]; exact al (block_new (by simp))
  have g9 : W1.heap[w.heap.size + 1 + 1 + 1 + 1]? = some (.cells #[.int .i64 q1, .int .i64 q2] 30) := by rw [hW1]; exact block_new (by simp)
  have HX1 := Lib.hid hx1
  have d0 : W1.cell? ⟨w.heap.size + 1 + 1 + 1, 0, none⟩ = some (.int .i64 p1) := cell_of_row W1 _ 0 _ _ _ g8
  have d1 : W1.cell? ⟨w.heap.size + 1 + 1 + 1, 1, none⟩ = some (.int .i64 p2) := cell_of_row W1 _ 1 _ _ _ g8
  have d2 : W1.cell? ⟨w.heap.size + 1 + 1 + 1 + 1, 0, none⟩ = some (.int .i64 q1) := cell_of_row W1 _ 0 _ _ _ g9
  have d3 : W1.cell? ⟨w.heap.size + 1 + 1 + 1 + 1, 1, none⟩ = some (.int .i64 q2) := cell_of_row W1 _ 1 _ _ _ g9
  have l8 := Rg.lt_of_heap g8; have l9 := Rg.lt_of_heap g9
  have HG : Hid (∀ W, Ext W1 W → W.heap[w.heap.size]? = some (.cells (tenC r) 39) ∧ W.heap[w.heap.size + 1]? = some (.cells (enC a sa) 57) ∧ W.heap[w.heap.size + 1 + 1]? = some (.cells (enC b sb) 57)) := Lib.hid fun W hW => ⟨(hW.block _ (Rg.lt_of_heap g5)).trans g5, (hW.block _ (Rg.lt_of_heap g6)).trans g6, (hW.block _ (Rg.lt_of_heap g7)).trans g7⟩
  clear hx1 g5 g6 g7 g8 g9 h2 h4 ha hb
  go_enter Tryz.func20, Tryz.ntmps20
  go_upto_region 1 with (fail)
  rw [← hW1]
  clear hW1
  obtain ⟨G9, hG9⟩ : ∃ x, x = w.heap.size + 1 + 1 + 1 + 1 := ⟨_, rfl⟩
  obtain ⟨G8, hG8⟩ : ∃ x, x = w.heap.size + 1 + 1 + 1 := ⟨_, rfl⟩
  obtain ⟨G7, hG7⟩ : ∃ x, x = w.heap.size + 1 + 1 := ⟨_, rfl⟩
  obtain ⟨G6, hG6⟩ : ∃ x, x = w.heap.size + 1 := ⟨_, rfl⟩
  obtain ⟨G5, hG5⟩ : ∃ x, x = w.heap.size := ⟨_, rfl⟩
  rw [← hG9] at d2 d3 l9 ⊢
  rw [← hG8] at d0 d1 l8 ⊢
  rw [← hG7] at HG ⊢
  rw [← hG6] at HG ⊢
  rw [← hG5] at HG ⊢
  clear hG9 hG8 hG7 hG6 hG5
  by_cases hcm : cm = 0
  · subst hcm
    rw [if_pos rfl] at HBF
    obtain ⟨tb, tc, hform⟩ := HTS.out.form
    have hle := HTS.out.le
    have HFM := Lib.hid hform
    clear hform
    go_upto_region 4 with (go_at_call 44; (with_reducible refine (HCM.out _).mono ?_); rintro e W2 ⟨rfl, hx2⟩; have HX2 := Lib.hid hx2; clear hx2)
    have x11 : W2.cell? ⟨G5, 11, none⟩ = some (.slice tb ts.length tc) := by
      rw [← HFM.out]
      exact cell_of_row W2 G5 11 _ _ _ (HG.out W2 HX2.out).1
    have l5 := Rg.lt_of_heap (HG.out W2 HX2.out).1
    go_upto_region 5 with (fail)
    have HT1 := HTS
    rw [HFM.out] at HT1
    clear d0 d1 d2 d3 l8 l9 x11 l5
    go_loopw [25] (fun kv wr => ∃ k : Nat, kv = .int .i64 k ∧ k ≤ ts.length ∧ Hid (tiesF cs a b ts = tiesF cs a b (ts.drop k)) ∧ Hid (Ext W1 wr)) (fun kv _ => ts.length - (intOf kv).toNat)
    case atStart => exact ⟨0, rfl, Nat.zero_le _, Lib.hid rfl, HX2⟩
    case round =>
      obtain ⟨k, rfl, hk, HD, HX⟩ := hrel
      by_cases hkl : k < ts.length
      · obtain ⟨g, rfl, -, hgl, hcell⟩ := str_at (HT1.out.ext (HX1.out.trans HX.out)) k hkl
        have HDD := Lib.hid (HD.out.trans (tiesF_drop cs a b ts k hkl))
        generalize ts[k] = nm at *
        have hki : (k : Int) < (ts.length : Int) := by omega
        have HG' := Lib.hid (HG.out wr HX.out)
        go_upto_region 7 with (fail)
        have HXW := Lib.hid (HX1.out.trans HX.out)
        refine Rr.wp_region [(0, .y), (1, .y), (3, .y), (4, .y), (2, .z), (5, .y)] (fun _ => (.cells #[] 29, Rg.ptr)) (by kernel_rfl) (by kernel_rfl) ?_
        (refine Rr.wr_y (by simp only [List.getElem?_toArray, List.getElem?_cons_succ, List.getElem?_cons_zero]; rfl) (by rfl) ?_
         apply Exists.intro
         refine ⟨fun wz hw _ => ?_, ?_⟩
         · exact up_row (by rfl) ((hw.block _ (Rg.lt_of_heap HG'.out.1)).trans HG'.out.1) Tryz.underlying39 (by kernel_rfl)
         simp only [Act.put, List.setIfInBounds_toArray, List.set_cons_zero, List.set_cons_succ])
        (refine Rr.wr_y (by simp only [List.getElem?_toArray, List.getElem?_cons_succ, List.getElem?_cons_zero]; rfl) (by rfl) ?_
         apply Exists.intro
         refine ⟨fun wz hw _ => ?_, ?_⟩
         · have hcz := hw.cells.1
           go_simp
           (with_reducible exact Rg.up_value)
         simp only [Act.put, List.setIfInBounds_toArray, List.set_cons_zero, List.set_cons_succ])
        (refine Rr.wr_y (by simp only [List.getElem?_toArray, List.getElem?_cons_succ, List.getElem?_cons_zero]; rfl) (by rfl) ?_
         apply Exists.intro
         refine ⟨fun wz hw _ => ?_, ?_⟩
         · exact up_row (by rfl) ((hw.block _ (Rg.lt_of_heap HG'.out.2.1)).trans HG'.out.2.1) Tryz.underlying57 (by kernel_rfl)
         simp only [Act.put, List.setIfInBounds_toArray, List.set_cons_zero, List.set_cons_succ])
        (refine Rr.wr_y (by simp only [List.getElem?_toArray, List.getElem?_cons_succ, List.getElem?_cons_zero]; rfl) (by rfl) ?_
         apply Exists.intro
         refine ⟨fun wz hw _ => ?_, ?_⟩
         · exact up_row (by rfl) ((hw.block _ (Rg.lt_of_heap HG'.out.2.2)).trans HG'.out.2.2) Tryz.underlying57 (by kernel_rfl)
         simp only [Act.put, List.setIfInBounds_toArray, List.set_cons_zero, List.set_cons_succ])
        refine Rr.wr_z (fun v w' => TieV cs nm v w') (by simp only [List.getElem?_toArray, List.getElem?_cons_succ, List.getElem?_cons_zero]; rfl) (by rfl) (fun v w1 w2 h e => by first | exact Rd.ext e h | exact h.ext e) (fun wz hw hh => ?_) (fun u => ?_)
        · have hcz := hw.cells.1
          go_simp
          apply Rr.upR_enter
          (with_reducible refine (tie_any r cs nm wz (HC.out.ext (HXW.out.trans hw))).mono ?_)
          rintro e w3 ⟨v3, rfl, hx3, hr3⟩
          exact ⟨v3, rfl, hx3, hr3⟩
        simp only [Act.put, List.setIfInBounds_toArray, List.set_cons_zero, List.set_cons_succ]
        (refine Rr.wr_y (by simp only [List.getElem?_toArray, List.getElem?_cons_succ, List.getElem?_cons_zero]; rfl) (by rfl) ⟨.int .i64 (tieF cs nm a b), fun wz hw hh => ?_, ?_⟩
         · have ht := hold0 hh
           rw [tie_val]
           rcases ht with ⟨h1, rfl⟩ | ⟨h1, h2, rfl⟩ | ⟨h1, c, pp, qq, h2, rfl, h3, h4⟩
           · rw [if_pos h1]
             go_simp
             apply Rg.up_enter
             (with_reducible refine (call75 a b sa sb wz).mono ?_)
             rintro e w3 ⟨rfl, hb3⟩
             exact ⟨rfl, hb3⟩
           · rw [if_neg (by rw [h1]; decide), h2]
             go_simp
             apply Rg.up_enter
             (with_reducible refine (call78 a b sa sb wz).mono ?_)
             rintro e w3 ⟨rfl, hb3⟩
             exact ⟨rfl, hb3⟩
           · rw [if_neg (by rw [h1]; decide), h2]
             go_simp
             apply Rg.up_enter
             (with_reducible refine (call79 a b sa sb nm (if c.less then -1 else 1) (by cases c.less <;> simp) pp qq wz (HA.out.ext (HXW.out.trans hw)) (HB.out.ext (HXW.out.trans hw)) h3 h4).mono ?_)
             rintro e w3 ⟨rfl, hb3⟩
             exact ⟨rfl, hb3⟩
         simp only [Act.put, List.setIfInBounds_toArray, List.set_cons_zero, List.set_cons_succ])
        refine Rr.wr_nil ?_
        intro wy hy hh
        simp only [List.length_cons, List.length_nil, List.drop_succ_cons, List.drop_zero, Nat.reduceAdd]
        clear hh
        have HY := Lib.hid (HX.out.trans hy)
        clear hy
        obtain ⟨z, hz⟩ : ∃ z, z = tieF cs nm a b := ⟨_, rfl⟩
        rw [← hz] at HDD ⊢
        clear hz
        by_cases hz0 : z = 0
        · subst hz0
          have HD2 : Hid (tiesF cs a b ts = tiesF cs a b (ts.drop (k + 1))) := Lib.hid (by rw [HDD.out]; exact if_pos rfl)
          go_wp2_with (fail)
          go_roundw
          case rel => exact ⟨k + 1, by rfl, by omega, HD2, HY⟩
          case measure => simp [intOf]; omega
        · have hzq : (z == 0) = false := by rw [beq_eq_false_iff_ne]; exact hz0
          have HD2 : Hid (tiesF cs a b ts = decide (0 < z)) := Lib.hid (by rw [HDD.out]; exact if_neg hz0)
          go_wp2_with (fail)
          go_ret
          exact ⟨by rw [HBF.out, HD2.out]; rfl, HX1.out.trans HY.out⟩
      · obtain rfl : k = ts.length := by omega
        have HD2 : Hid (tiesF cs a b ts = decide (a.rec_ < b.rec_)) := Lib.hid (by rw [HD.out, List.drop_length]; rfl)
        have v2 : wr.cell? ⟨G6, 2, none⟩ = some (.int .i64 a.rec_) := cell_of_row wr G6 2 _ _ _ (HG.out wr HX.out).2.1
        have v3 : wr.cell? ⟨G7, 2, none⟩ = some (.int .i64 b.rec_) := cell_of_row wr G7 2 _ _ _ (HG.out wr HX.out).2.2
        have l6 := Rg.lt_of_heap (HG.out wr HX.out).2.1
        have l7 := Rg.lt_of_heap (HG.out wr HX.out).2.2
        go_wp2_with (fail)
        go_ret
        exact ⟨by rw [HBF.out, HD2.out]; rfl, HX1.out.trans HX.out⟩
  · have hcq : (cm == 0) = false := by rw [beq_eq_false_iff_ne]; exact hcm
    rw [if_neg hcm] at HBF
    go_upto_region 3 with (go_at_call 44; (with_reducible refine (HCM.out _).mono ?_); rintro e W2 ⟨rfl, hx2⟩; have HX2 := Lib.hid hx2; clear hx2)
    go_wp2_with (fail)
    go_ret
    exact ⟨by rw [HBF.out]; rfl, HX1.out.trans HX2.out⟩
end Go.Proofs.YteomcpplajeidaaGreat
