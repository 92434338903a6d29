/-
  Lemmas of this claim (JtAK). Nothing is asked.
-/
import Derived.Test.YteomcpplajeidaaGreatJtAI
import Derived.Deep.MidRow
namespace Go.Proofs.YteomcpplajeidaaGreat
set_option linter.unusedVariables false
set_option linter.unusedSimpArgs false
set_option maxRecDepth 100000
open Go.RowKit
theorem range_of {w : World} {b : Nat} {row : Array Value} {t : TypeId} {fr : Nat × Nat} (h : w.heap[b]? = some (.cells row t fr)) (o : Nat) (cs : List Value) (hc : ∀ j v, cs[j]? = some v → row[o + j]? = some v) : w.rangeAt b o cs := fun j v hv => by
  rw [← hc j v hv]
  exact cell_of_row w b (o + j) _ _ _ h
def ltS (cs : List Cr) (ts : List ByteArray) (x y : Sc) : Bool := betF cs ts x.e y.e x.p y.p
def cmpS (cs : List Cr) (ts : List ByteArray) (x y : Sc) : Int := if ltS cs ts x y then -1 else if ltS cs ts y x then 1 else 0
theorem cmpS_neg (cs : List Cr) (ts : List ByteArray) (x y : Sc) : decide (cmpS cs ts x y < 0) = ltS cs ts x y := by
  unfold cmpS
  cases ltS cs ts x y
  · rw [if_neg (by decide)]
    split <;> rfl
  · rfl
def ScV (w : World) (x : Sc) : Prop := VRd All w x.e.vs (slV x.s) ∧ I2 x.p
set_option maxHeartbeats 8000000 in
theorem compareS_any (r : TnR) (cs : List Cr) (ts : List ByteArray) (x y : Sc) (w : World) (h2 : SR cellsCr 5 w (slV r.cs) cs) (h4 : SR strC 1 w (slV r.ts) ts) (hx : ScV w x) (hy : ScV w y) :
    Calls Tryz.prog 40 #[.agg (tenC r), .agg x.cs.toArray, .agg y.cs.toArray] w fun e w' => e = .returned (.int .i64 (cmpS cs ts x y)) ∧ Ext w w' := by
  have HXY := Lib.hid (fun wz (hw : Ext w wz) => Better_any r cs ts x.e y.e x.s y.s x.p y.p hx.2 hy.2 wz (h2.ext hw) (h4.ext hw) (VRd.ext hw hx.1) (VRd.ext hw hy.1))
  have HYX := Lib.hid (fun wz (hw : Ext w wz) => Better_any r cs ts y.e x.e y.s x.s y.p x.p hy.2 hx.2 wz (h2.ext hw) (h4.ext hw) (VRd.ext hw hy.1) (VRd.ext hw hx.1))
  change Hid (∀ wz, Ext w wz → Calls Tryz.prog 20 _ wz fun e w' => e = .returned (.bool (ltS cs ts x y)) ∧ Ext wz w') at HXY
  change Hid (∀ wz, Ext w wz → Calls Tryz.prog 20 _ wz fun e w' => e = .returned (.bool (ltS cs ts y x)) ∧ Ext wz w') at HYX
  have HC : Hid (cmpS cs ts x y = if ltS cs ts x y then -1 else if ltS cs ts y x then 1 else 0) := Lib.hid rfl
  generalize ltS cs ts x y = b1 at *
  generalize ltS cs ts y x = b2 at *
  obtain ⟨⟨x0, x1, x2, x3, xv⟩, ⟨xa, xl, xc⟩, ⟨x5, x6⟩⟩ := x
  obtain ⟨⟨y0, y1, y2, y3, yv⟩, ⟨ya, yl, yc⟩, ⟨y5, y6⟩⟩ := y
  simp only [Sc.cs]
  clear hx hy h2 h4
  obtain ⟨W1, hW1⟩ : ∃ W1, W1 = ((w.alloc (.cells (tenC r) 104)).alloc (.cells #[.int .i64 x0, .int .i64 x1, .int .i64 x2, .int .i64 x3, .slice xa xl xc, .int .i64 x5, .int .i64 x6] 100)).alloc (.cells #[.int .i64 y0, .int .i64 y1, .int .i64 y2, .int .i64 y3, .slice ya yl yc, .int .i64 y5, .int .i64 y6] 100) := ⟨_, rfl⟩
  have hx1 : Ext w W1 := by rw [hW1]; exact Ext.alloc (Ext.alloc (Ext.alloc (Ext.refl _) _) _) _
  have g3 : W1.heap[w.heap.size]? = some (.cells (tenC r) 104) := by rw [hW1]; exact al (al (block_new rfl))
  have g4 : W1.heap[w.heap.size + 1]? = some (.cells #[.int .i64 x0, .int .i64 x1, .int .i64 x2, .int .i64 x3, .slice xa xl xc, .int .i64 x5, .int .i64 x6] 100) := by rw [hW1]; exact al (block_new (by simp))
  have g5 : W1.heap[w.heap.size + 1 + 1]? = some (.cells #[.int .i64 y0, .int .i64 y1, .int .i64 y2, .int .i64 y3, .slice ya yl yc, .int .i64 y5, .int .i64 y6] 100) := by rw [hW1]; exact block_new (by simp)
  go_enter Tryz.func40, Tryz.ntmps40
  go_upto_region 1 with (fail)
  rw [← hW1]
  clear hW1
  obtain ⟨G5, hG5⟩ : ∃ x, x = w.heap.size + 1 + 1 := ⟨_, rfl⟩
  obtain ⟨G4, hG4⟩ : ∃ x, x = w.heap.size + 1 := ⟨_, rfl⟩
  obtain ⟨G3, hG3⟩ : ∃ x, x = w.heap.size := ⟨_, rfl⟩
  rw [← hG5] at g5 ⊢
  rw [← hG4] at g4 ⊢
  rw [← hG3] at g3 ⊢
  clear hG5 hG4 hG3
  have HG : Hid (∀ W, Ext W1 W → W.heap[G3]? = some (.cells (tenC r) 104) ∧ W.heap[G4]? = some (.cells #[.int .i64 x0, .int .i64 x1, .int .i64 x2, .int .i64 x3, .slice xa xl xc, .int .i64 x5, .int .i64 x6] 100) ∧ W.heap[G5]? = some (.cells #[.int .i64 y0, .int .i64 y1, .int .i64 y2, .int .i64 y3, .slice ya yl yc, .int .i64 y5, .int .i64 y6] 100)) := Lib.hid fun W hW => ⟨(hW.block _ (Rg.lt_of_heap g3)).trans g3, (hW.block _ (Rg.lt_of_heap g4)).trans g4, (hW.block _ (Rg.lt_of_heap g5)).trans g5⟩
  have HX := Lib.hid hx1
  have HX0 := Lib.hid (Ext.refl W1)
  clear g3 g4 g5 hx1
  obtain ⟨row, hrow⟩ : ∃ row, row = (tenC r).toList := ⟨_, rfl⟩
  have hrs : row.length = 20 := by rw [hrow]; rfl
  have HRT : Hid (row.toArray = tenC r) := Lib.hid (by rw [hrow])
  have HRG : Hid (∀ W, Ext W1 W → W.rangeAt G3 0 row) := Lib.hid fun W hW => range_of (HG.out W hW).1 0 row (fun j v hv => by rw [hrow] at hv; simpa using hv)
  rw [← HRT.out] at HXY HYX
  clear hrow
  obtain ⟨e0, e1, e2, e3, e4, e5, e6⟩ := (show _ ∧ _ ∧ _ ∧ _ ∧ _ ∧ _ ∧ _ from ⟨cell_of_row _ G4 0 _ _ _ (HG.out _ HX0.out).2.1, cell_of_row _ G4 1 _ _ _ (HG.out _ HX0.out).2.1, cell_of_row _ G4 2 _ _ _ (HG.out _ HX0.out).2.1, cell_of_row _ G4 3 _ _ _ (HG.out _ HX0.out).2.1, cell_of_row _ G4 4 _ _ _ (HG.out _ HX0.out).2.1, cell_of_row _ G4 5 _ _ _ (HG.out _ HX0.out).2.1, cell_of_row _ G4 6 _ _ _ (HG.out _ HX0.out).2.1⟩)
  obtain ⟨f0, f1, f2, f3, f4, f5, f6⟩ := (show _ ∧ _ ∧ _ ∧ _ ∧ _ ∧ _ ∧ _ from ⟨cell_of_row _ G5 0 _ _ _ (HG.out _ HX0.out).2.2, cell_of_row _ G5 1 _ _ _ (HG.out _ HX0.out).2.2, cell_of_row _ G5 2 _ _ _ (HG.out _ HX0.out).2.2, cell_of_row _ G5 3 _ _ _ (HG.out _ HX0.out).2.2, cell_of_row _ G5 4 _ _ _ (HG.out _ HX0.out).2.2, cell_of_row _ G5 5 _ _ _ (HG.out _ HX0.out).2.2, cell_of_row _ G5 6 _ _ _ (HG.out _ HX0.out).2.2⟩)
  have l3 := Rg.lt_of_heap (HG.out _ HX0.out).1
  have l4 := Rg.lt_of_heap (HG.out _ HX0.out).2.1
  have l5 := Rg.lt_of_heap (HG.out _ HX0.out).2.2
  simp only [List.getElem?_toArray, List.getElem?_cons_zero, List.getElem?_cons_succ] at e0 e1 e2 e3 e4 e5 e6 f0 f1 f2 f3 f4 f5 f6
  cases b1 with
  | true =>
    go_wp2_with
      (first
        | (refine wpList_load_mid rfl 39 (.tmp 8) rfl G3 0 (by rfl) row _ (HRG.out _ HX0.out) Tryz.underlying39 rfl (by rw [hrs]; kernel_rfl) ?_)
        | (go_at_call 20; (with_reducible refine (HXY.out _ (HX.out.trans HX0.out)).mono ?_); rintro e W2 ⟨rfl, hx2⟩; have HX0 := Lib.hid (HX0.out.trans hx2); clear hx2))
    go_ret
    exact ⟨by rw [HC.out]; rfl, HX.out.trans HX0.out⟩
  | false =>
    go_upto_region 3 with
      (first
        | (refine wpList_load_mid rfl 39 (.tmp 8) rfl G3 0 (by rfl) row _ (HRG.out _ HX0.out) Tryz.underlying39 rfl (by rw [hrs]; kernel_rfl) ?_)
        | (go_at_call 20; (with_reducible refine (HXY.out _ (HX.out.trans HX0.out)).mono ?_); rintro e W2 ⟨rfl, hx2⟩; have HX0 := Lib.hid (HX0.out.trans hx2); clear hx2))
    obtain ⟨e0, e1, e2, e3, e4, e5, e6⟩ := (show _ ∧ _ ∧ _ ∧ _ ∧ _ ∧ _ ∧ _ from ⟨cell_of_row _ G4 0 _ _ _ (HG.out _ HX0.out).2.1, cell_of_row _ G4 1 _ _ _ (HG.out _ HX0.out).2.1, cell_of_row _ G4 2 _ _ _ (HG.out _ HX0.out).2.1, cell_of_row _ G4 3 _ _ _ (HG.out _ HX0.out).2.1, cell_of_row _ G4 4 _ _ _ (HG.out _ HX0.out).2.1, cell_of_row _ G4 5 _ _ _ (HG.out _ HX0.out).2.1, cell_of_row _ G4 6 _ _ _ (HG.out _ HX0.out).2.1⟩)
    obtain ⟨f0, f1, f2, f3, f4, f5, f6⟩ := (show _ ∧ _ ∧ _ ∧ _ ∧ _ ∧ _ ∧ _ from ⟨cell_of_row _ G5 0 _ _ _ (HG.out _ HX0.out).2.2, cell_of_row _ G5 1 _ _ _ (HG.out _ HX0.out).2.2, cell_of_row _ G5 2 _ _ _ (HG.out _ HX0.out).2.2, cell_of_row _ G5 3 _ _ _ (HG.out _ HX0.out).2.2, cell_of_row _ G5 4 _ _ _ (HG.out _ HX0.out).2.2, cell_of_row _ G5 5 _ _ _ (HG.out _ HX0.out).2.2, cell_of_row _ G5 6 _ _ _ (HG.out _ HX0.out).2.2⟩)
    have l3 := Rg.lt_of_heap (HG.out _ HX0.out).1
    have l4 := Rg.lt_of_heap (HG.out _ HX0.out).2.1
    have l5 := Rg.lt_of_heap (HG.out _ HX0.out).2.2
    simp only [List.getElem?_toArray, List.getElem?_cons_zero, List.getElem?_cons_succ] at e0 e1 e2 e3 e4 e5 e6 f0 f1 f2 f3 f4 f5 f6
    cases b2 with
    | true =>
      go_wp2_with (first
        | (refine wpList_load_mid rfl 39 (.tmp 20) rfl G3 0 (by rfl) row _ (HRG.out _ HX0.out) Tryz.underlying39 rfl (by rw [hrs]; kernel_rfl) ?_)
        | (go_at_call 20; (with_reducible refine (HYX.out _ (HX.out.trans HX0.out)).mono ?_); rintro e W3 ⟨rfl, hx3⟩; have HX0 := Lib.hid (HX0.out.trans hx3); clear hx3))
      go_ret
      exact ⟨by rw [HC.out]; rfl, HX.out.trans HX0.out⟩
    | false =>
      go_wp2_with (first
        | (refine wpList_load_mid rfl 39 (.tmp 20) rfl G3 0 (by rfl) row _ (HRG.out _ HX0.out) Tryz.underlying39 rfl (by rw [hrs]; kernel_rfl) ?_)
        | (go_at_call 20; (with_reducible refine (HYX.out _ (HX.out.trans HX0.out)).mono ?_); rintro e W3 ⟨rfl, hx3⟩; have HX0 := Lib.hid (HX0.out.trans hx3); clear hx3))
      go_ret
      exact ⟨by rw [HC.out]; rfl, HX.out.trans HX0.out⟩
end Go.Proofs.YteomcpplajeidaaGreat
namespace Go.Proofs.YteomcpplajeidaaGreat
set_option linter.unusedVariables false
set_option linter.unusedSimpArgs false
set_option maxRecDepth 100000
section
variable {α : Type} (lt : α → α → Bool)
def insRv (x : α) : List α → List α
  | [] => [x]
  | y :: ys => if lt x y then y :: insRv x ys else x :: y :: ys
def insR (x : α) (A : List α) : List α := (insRv lt x A.reverse).reverse
theorem insR_nil (x : α) : insR lt x [] = [x] := rfl
theorem insR_snoc (x y : α) (A : List α) : insR lt x (A ++ [y]) = if lt x y then insR lt x A ++ [y] else A ++ [y] ++ [x] := by
  unfold insR
  rw [List.reverse_append]
  simp only [List.reverse_cons, List.reverse_nil, List.nil_append, List.cons_append, insRv]
  split
  · simp
  · simp
theorem insRv_perm (x : α) : ∀ A : List α, (insRv lt x A).Perm (x :: A)
  | [] => .refl _
  | y :: ys => by
    unfold insRv
    split
    · exact ((insRv_perm x ys).cons y).trans (.swap x y ys)
    · exact .refl _
theorem insR_perm (x : α) (A : List α) : (insR lt x A).Perm (x :: A) :=
  (List.reverse_perm _).trans ((insRv_perm lt x _).trans ((List.reverse_perm A).cons x))
def isort (zs : List α) : List α := zs.foldl (fun acc x => insR lt x acc) []
theorem isort_snoc (zs : List α) (x : α) : isort lt (zs ++ [x]) = insR lt x (isort lt zs) := by
  unfold isort
  rw [List.foldl_append]
  rfl
theorem isort_perm_acc : ∀ (zs acc : List α), (zs.foldl (fun acc x => insR lt x acc) acc).Perm (acc ++ zs)
  | [], acc => by simp
  | x :: zs, acc => by
    rw [List.foldl_cons]
    refine (isort_perm_acc zs _).trans ?_
    refine ((insR_perm lt x acc).append_right zs).trans ?_
    exact List.perm_middle.symm
theorem isort_perm (zs : List α) : (isort lt zs).Perm zs := isort_perm_acc lt zs []
theorem isort_len (zs : List α) : (isort lt zs).length = zs.length := (isort_perm lt zs).length_eq
theorem isort_take (zs : List α) (i : Nat) (h : i < zs.length) : isort lt (zs.take (i + 1)) = insR lt zs[i] (isort lt (zs.take i)) := by
  rw [List.take_succ_eq_append_getElem h, isort_snoc]
end
end Go.Proofs.YteomcpplajeidaaGreat
