/-
  Lemmas of this claim (JtAP). Nothing is asked.
-/
import Derived.Test.YteomcpplajeidaaGreatJtAD
import Derived.Test.YteomcpplajeidaaGreatJtAO
import Derived.Deep.RegionHeld3
import Derived.Test.YteomcpplajeidaaGreatJtQ
import Derived.Deep.Upon
import Derived.Deep.AppendLies
import Derived.ArgAppend
namespace Go.Proofs.YteomcpplajeidaaGreat
set_option linter.unusedVariables false
set_option linter.unusedSimpArgs false
set_option maxRecDepth 100000
open Go.RowKit
theorem entry55 (b p c k : Int) (w : World) : Calls Tryz.prog 55 #[.int .i64 b, .int .i64 p, .int .i64 c, .int .i64 k] w fun e w' =>
    ∃ q, e = .returned (.agg #[.int .i64 b, .int .i64 1, .int .i64 k, .int .i64 p, .slice (some ⟨q, 0, none⟩) 1 1]) ∧ w.heap.size ≤ q ∧ w'.heap[q]? = some (.cells #[.string comfB, .int .i64 c] 80) ∧ Ext w w' := by
  go_enter Tryz.func55, Tryz.ntmps55
  go_wp2
  exact bodyPost_ret (v := .agg #[.int .i64 b, .int .i64 1, .int .i64 k, .int .i64 p, .slice (some ⟨w.heap.size + 1, 0, none⟩) 1 1]) (by simp [results, Tryz.results55, go_sem]) rfl ⟨_, rfl, by omega, block_new (by simp), (by with_reducible repeat (first | exact Ext.refl _ | assumption | apply Ext.drewN | apply Ext.drew | apply Ext.alloc | (refine Ext.setCell ?_ (by simp <;> omega) _) | (refine Ext.trans ?_ (by assumption))))⟩
theorem parse_lit (w : World) : Calls Tryz.prog 54 #[.string ⟨#[116, 101, 110, 100, 101, 114, 32, 67, 104, 97, 105, 114, 115, 10, 108, 111, 116, 32, 49, 32, 109, 111, 115, 116, 32, 53, 48, 48, 10, 99, 114, 105, 116, 101, 114, 105, 111, 110, 32, 99, 111, 109, 102, 111, 114, 116, 32, 103, 114, 97, 100, 101, 32, 48, 32, 49, 48, 10, 112, 114, 105, 99, 101, 32, 49, 32, 53, 48, 48, 10, 102, 111, 114, 109, 117, 108, 97, 32, 48, 46, 54, 32, 42, 32, 108, 111, 119, 32, 47, 32, 112, 114, 105, 99, 101, 32, 43, 32, 48, 46, 48, 52, 32, 42, 32, 99, 111, 109, 102, 111, 114, 116, 10, 116, 105, 101, 32, 99, 111, 109, 102, 111, 114, 116, 10, 98, 117, 100, 103, 101, 116, 32, 53, 48, 48, 10, 116, 105, 109, 101, 115, 32, 49, 48, 32, 50, 48, 32, 51, 48, 32, 52, 48, 32, 53, 10]⟩] w fun e w' => ∃ r, e = .returned (.tuple #[.agg (tenC r), .int .i64 0, .int .i64 0]) ∧ Ext w w' ∧ TF (fun b => w.heap.size < b) w.heap.size w' r (dD 9) := parse_any w
theorem ten_one (r : TnR) : ∀ v ∈ (tenC r).toList, v.oneCell' = true := by
  intro v hv
  simp at hv
  rcases hv with rfl | rfl | rfl | rfl | rfl | rfl | rfl | rfl | rfl | rfl | rfl | rfl | rfl | rfl | rfl | rfl | rfl | rfl | rfl | rfl <;> rfl
abbrev chE (q1 q2 q3 : Nat) : List ER := [(⟨7, 1, 1, 100, [(comfB, 5)]⟩, some ⟨q1, 0, none⟩, 1, 1), (⟨8, 1, 2, 200, [(comfB, 10)]⟩, some ⟨q2, 0, none⟩, 1, 1), (⟨9, 1, 3, 600, [(comfB, 10)]⟩, some ⟨q3, 0, none⟩, 1, 1)]
theorem op_store_row {o : Oper} {a : Act} {w : World} {K : Act → World → Prop} {Q : Exit → Act → World → Prop} (T : TypeId) (x y : Operand) (ho : o.op = .store T x y)
    (g : Nat) (hx : a.eval x = .pointer (some ⟨g, 0, none⟩)) (cs : Array Value) (hy : a.eval y = .agg cs) (old : Array Value) (t : TypeId) (hg : w.heap[g]? = some (.cells old t (0, 0))) (hl : old.size = cs.size)
    (hi : (Tryz.prog.info? T).map (·.size) = some cs.size) (h1 : ∀ v ∈ cs.toList, v.oneCell' = true)
    (h : K (a.put o.dst undef) (w.setRow g cs)) : Oper.wp Tryz.prog o a w K Q := by
  have hr := run_storeCells_at (P := Tryz.prog) g 0 t cs.toList 0 old w hg (by simp; omega) h1
  have he : (old.toList.take (0 + 0) ++ cs.toList ++ old.toList.drop (0 + 0 + cs.toList.length)).toArray = cs := by
    rw [List.drop_eq_nil_of_le (by simp; omega)]; simp
  rw [he] at hr
  unfold Oper.wp execOp
  have hs : (Go.sizeOf T).run Tryz.prog w = .ok cs.size w := by
    cases hq : Tryz.prog.info? T with
    | none => simp [hq] at hi
    | some i =>
      have hs : i.size = cs.size := by simpa [hq] using hi
      simp [sizeOf, typeInfo, hq, hs]
  have hst : (storeVar T ⟨g, 0, none⟩ (.agg cs)).run Tryz.prog w = .ok () (w.setRow g cs) := by
    unfold storeVar
    simp only [Value.cells, Sem.run_bind, hs, Result.andThen_ok, ne_eq, not_true_eq_false, if_false]
    exact hr
  simp only [ho, hx, hy, Instr.storeAt, Instr.sureAddr, Sem.run_bind, Sem.run_pure, Result.andThen_ok, hst]
  exact h
theorem load_row_yields {ρ : Operand → Value} {d : Option Tmp} {x : Operand} {ty : TypeId} {ps : String} {af : Array Edge} {gd : Option (Nat × Bool)} {w : World} {g : Nat} {T t : TypeId} {cs : Array Value} {fs : Array Field} {fr : Nat × Nat}
    (hx : ρ x = .pointer (some ⟨g, 0, none⟩)) (hg : w.heap[g]? = some (.cells cs t fr))
    (hu : Tryz.prog.underlying T = some (.struct fs)) (hi : (Tryz.prog.info? T).map (·.size) = some cs.size) :
    (execOp ρ { dst := d, op := .load T x, type := ty, pos := ps, after := af, guard := gd }).run Tryz.prog w = .ok (.value (.agg cs)) w := by
  have h := run_loadVar_row (P := Tryz.prog) w g t T cs _ (.struct fs) hg hu rfl hi
  unfold execOp
  simp only [hx, Instr.loadAt, Instr.sureAddr, Sem.run_bind, Sem.run_pure, Result.andThen_ok, h]
theorem alloc_new (w : World) (o : Obj) : (w.alloc o).heap[w.heap.size]? = some o := heap_alloc_new w o
theorem alloc_old {w : World} (o : Obj) {i : Nat} (h : i < w.heap.size) : (w.alloc o).heap[i]? = w.heap[i]? := heap_alloc_old w o h
theorem results_cell1t {fn : Func} {p a : Tmp} {ty : TypeId} (h : fn.results = #[.cell p ty, .tmp a]) (tmps : Array Value) (w : World) (g : Nat) (t : TypeId) (cs : Array Value) (fr : Nat × Nat) (fs : Array Field) (va : Value)
    (hp : tmps.getD p undef = .pointer (some ⟨g, 0, none⟩)) (ha : tmps.getD a undef = va) (hg : w.heap[g]? = some (.cells cs t fr))
    (hu : Tryz.prog.underlying ty = some (.struct fs)) (hi : (Tryz.prog.info? ty).map (·.size) = some cs.size) :
    (results fn tmps).run Tryz.prog w = .ok (.tuple #[.agg cs, va]) w := by
  have hp' : tmps[p]?.getD undef = .pointer (some ⟨g, 0, none⟩) := by simpa using hp
  have ha' : tmps[a]?.getD undef = va := by simpa using ha
  simp [results, h, hp', ha', asAddr, run_loadVar_row w g t ty cs fr (.struct fs) hg hu rfl hi]
theorem KX.setRow' (p : Nat) (w : World) (cs : Array Value) : KX p w (w.setRow p cs) := ⟨rfl, rfl, rfl, by simp, fun k _ hk => setRow_other w p k cs (fun e => hk (by rw [e]))⟩
def ChP (w : World) (e : Ending) (w' : World) : Prop := ∃ r g q1 q2 q3, e = .returned (.tuple #[.agg (tenC r), .slice (some ⟨g, 0, none⟩) 3 3]) ∧ Ext w w' ∧ TF (fun b => w.heap.size < b) w.heap.size w' r (dD 9) ∧
    w.heap.size ≤ g ∧ w'.heap[g]? = some (.cells ((chE q1 q2 q3).flatMap cellsEn).toArray 57) ∧ w.heap.size ≤ q1 ∧ w'.heap[q1]? = some (.cells #[.string comfB, .int .i64 5] 80) ∧ w.heap.size ≤ q2 ∧ w'.heap[q2]? = some (.cells #[.string comfB, .int .i64 10] 80) ∧ w.heap.size ≤ q3 ∧ w'.heap[q3]? = some (.cells #[.string comfB, .int .i64 10] 80)
set_option maxHeartbeats 16000000 in
theorem chairs_any (w : World) : Calls Tryz.prog 27 #[] w (ChP w) := by
  have HE := Lib.hid (fun b p c k wz => entry55 b p c k wz)
  have hx0 : Ext w (w.alloc (.cells (tenC zeroT) 39)) := Ext.alloc (Ext.refl _) _
  have hb0 : (w.alloc (.cells (tenC zeroT) 39)).heap[w.heap.size]? = some (.cells (tenC zeroT) 39) := block_new rfl
  have HX0 := Lib.hid hx0; have HB0 := Lib.hid hb0
  clear hx0 hb0
  go_enter Tryz.func27, Tryz.ntmps27
  go_upto_region 2 with (first
    | (go_at_call 54; (with_reducible refine (parse_lit _).mono ?_); rintro e w1 ⟨r, rfl, hx1, ht1⟩; have HX1 := Lib.hid (HX0.out.trans hx1); have HB1 := Lib.hid ((hx1.block _ (Rg.lt_of_heap HB0.out)).trans HB0.out); have HT1 := Lib.hid ht1; clear hx1 ht1; obtain ⟨row, hrow⟩ : ∃ row, row = tenC r := ⟨_, rfl⟩; rw [← hrow]; have hrs : row.size = 20 := (by rw [hrow]; rfl); have hone : ∀ v ∈ row.toList, v.oneCell' = true := (by rw [hrow]; exact ten_one r); have HROW := Lib.hid hrow; clear hrow)
    | (refine wpList_store_row rfl 39 (.tmp 2) (.tmp 8) rfl w1.heap.size (by rfl) row (by rfl) _ 39 (block_new rfl) (by rw [hrs]; rfl) (by rw [hrs]; kernel_rfl) hone ?_))
  have hb2 : ((w1.alloc (.cells (tenC zeroT) 39)).setRow w1.heap.size row).heap[w1.heap.size]? = some (.cells row 39) := setRow_heap _ _ _ row _ _ (block_new rfl)
  have hx2 : Ext w1 ((w1.alloc (.cells (tenC zeroT) 39)).setRow w1.heap.size row) := below_setRow (Ext.alloc (Ext.refl _) _) (Nat.le_refl _) _
  have HB2 := Lib.hid hb2; have HX2 := Lib.hid (HX1.out.trans hx2); have HD2 := Lib.hid ((hx2.block _ (Rg.lt_of_heap HB1.out)).trans HB1.out); have HT2 := Lib.hid (HT1.out.ext hx2)
  have hpd : w.heap.size < w1.heap.size := Rg.lt_of_heap HB1.out
  clear hb2 hx2 HB1 HX1 HT1
  obtain ⟨P2, hP2⟩ : ∃ x, x = w1.heap.size := ⟨_, rfl⟩
  rw [← hP2] at HB2 HX2 HD2 HT2 hpd ⊢
  clear hP2
  simp only [tenC, slV] at HB2 HX2 HD2 HT2
  go_upto_region 3 with (fail)
  generalize ((w1.alloc (.cells #[.string nilB, .slice none 0 0, .slice none 0 0, .slice none 0 0, .int .i64 0, .int .i64 0, .string nilB, .int .i64 0, .int .i64 0, .string nilB, .slice none 0 0, .slice none 0 0, .int .i64 0, .slice none 0 0, .int .i64 0, .int .i64 0, .int .i64 0, .int .i64 0, .int .i64 0, .int .i64 0] 39)).setRow P2 row) = w2 at *
  have hi39 : (Tryz.prog.info? 39).map (·.size) = some row.size := (by rw [hrs]; kernel_rfl)
  refine wp_region_held_drew (S := fun w' => w'.heap[P2]? = some (.cells row 39)) (by kernel_rfl) (by exact HB2.out) (fun hHeld => ?_)
  refine wpAnyH_take (i := 0) (oi := _) (v := .agg row) rfl (by kernel_rfl) (by kernel_rfl) (by kernel_rfl) (fun _ _ _ h => h) (Or.inl ⟨by rfl, fun wz hz => load_row_yields (by rfl) hz Tryz.underlying39 hi39⟩) hHeld ?_
  simp only [Act.put, List.setIfInBounds_toArray, List.set_cons_zero, List.set_cons_succ]
  refine wpAnyH_take (i := 1) (oi := _) (v := .func (.func 55) #[] #[]) rfl (by kernel_rfl) (by kernel_rfl) (by kernel_rfl) (fun _ _ _ h => h) (Or.inl ⟨by rfl, fun wz hz => by go_simp⟩) hHeld ?_
  simp only [Act.put, List.setIfInBounds_toArray, List.set_cons_zero, List.set_cons_succ]
  refine wpAnyH_take (i := 3) (oi := _) (v := .func (.func 55) #[] #[]) rfl (by kernel_rfl) (by kernel_rfl) (by kernel_rfl) (fun _ _ _ h => h) (Or.inl ⟨by rfl, fun wz hz => by go_simp⟩) hHeld ?_
  simp only [Act.put, List.setIfInBounds_toArray, List.set_cons_zero, List.set_cons_succ]
  refine wpAnyH_take (i := 5) (oi := _) (v := .func (.func 55) #[] #[]) rfl (by kernel_rfl) (by kernel_rfl) (by kernel_rfl) (fun _ _ _ h => h) (Or.inl ⟨by rfl, fun wz hz => by go_simp⟩) hHeld ?_
  simp only [Act.put, List.setIfInBounds_toArray, List.set_cons_zero, List.set_cons_succ]
  refine wpAnyH_ready (rs := [2]) (by kernel_rfl) (by simp) (AllReadyH.cons (o := _) rfl (fun K hK => ?_) AllReadyH.nil)
  go_simp
  (with_reducible refine (HE.out 7 100 5 1 _).mono ?_)
  rintro e w3 ⟨q1, rfl, hq1, hb1, hx3⟩
  go_simp
  refine hK.out _ _ ((hx3.block _ (Rg.lt_of_heap hHeld)).trans hHeld) (fun hHeld => ?_)
  clear hK K
  refine wpAnyH_ready (rs := [4]) (by kernel_rfl) (by simp) (AllReadyH.cons (o := _) rfl (fun K hK => ?_) AllReadyH.nil)
  go_simp
  (with_reducible refine (HE.out 8 200 10 2 _).mono ?_)
  rintro e w4 ⟨q2, rfl, hq2, hb2, hx4⟩
  go_simp
  refine hK.out _ _ ((hx4.block _ (Rg.lt_of_heap hHeld)).trans hHeld) (fun hHeld => ?_)
  clear hK K
  refine wpAnyH_ready (rs := [6]) (by kernel_rfl) (by simp) (AllReadyH.cons (o := _) rfl (fun K hK => ?_) AllReadyH.nil)
  go_simp
  (with_reducible refine (HE.out 9 600 10 3 _).mono ?_)
  rintro e w5 ⟨q3, rfl, hq3, hb3, hx5⟩
  go_simp
  refine hK.out _ _ ((hx5.block _ (Rg.lt_of_heap hHeld)).trans hHeld) (fun hHeld => ?_)
  clear hK K
  have hx25 : Ext w2 w5 := (Ext.refl w2).drew.trans (hx3.trans (hx4.trans hx5))
  have hD5 : w5.heap[w.heap.size]? = some (.cells (tenC zeroT) 39) := (hx25.block _ (Rg.lt_of_heap HD2.out)).trans HD2.out
  have hl5 := Rg.lt_of_heap hD5
  have hne : w.heap.size ≠ w5.heap.size := Nat.ne_of_lt hl5
  have hx05 : Ext w w5 := HX2.out.trans hx25
  have hTF5 : TF (fun b => w.heap.size < b) w.heap.size w5 r (dD 9) := ((HT2.out.ext hx25).move (A' := fun b => w.heap.size < b) (fun _ _ _ => rfl) (fun b hb _ => by have hb' : (w.alloc (.cells (tenC zeroT) 39)).heap.size < b := hb; simp at hb'; omega)).base (by simp)
  obtain ⟨ob, hob⟩ : ∃ ob : Obj, ob = .cells ((chE q1 q2 q3).flatMap cellsEn).toArray 57 := ⟨_, rfl⟩
  have HOB := Lib.hid hob
  clear hob
  have fin : ∀ w6, KX w.heap.size w5 w6 → w6.heap[w5.heap.size]? = some ob → ChP w (.returned (.tuple #[.agg row, .slice (some ⟨w5.heap.size, 0, none⟩) 3 3])) w6 := by
    intro w6 k hg6
    have hs2 : w.heap.size < w2.heap.size := Rg.lt_of_heap HD2.out
    have hs3 : w2.heap.size ≤ w3.heap.size := hx3.size
    have hs4 := hx4.size
    have hq1' : w2.heap.size ≤ q1 := hq1
    exact ⟨r, w5.heap.size, q1, q2, q3, by rw [HROW.out], Ext.of_kx hx05 k (Nat.le_refl _), hTF5.kx k (fun b hb => Nat.ne_of_gt hb), Nat.le_of_lt hl5, by rw [hg6, HOB.out], by omega,
      k.at ((hx5.block _ (Rg.lt_of_heap ((hx4.block _ (Rg.lt_of_heap hb1)).trans hb1))).trans ((hx4.block _ (Rg.lt_of_heap hb1)).trans hb1)) (by omega), by omega, k.at ((hx5.block _ (Rg.lt_of_heap hb2)).trans hb2) (by omega), by omega, k.at hb3 (by omega)⟩
  refine wpAnyH_ready (rs := [7, 8]) (by kernel_rfl) (by simp) (AllReadyH.cons (o := _) rfl (fun K hK => ?_) (AllReadyH.cons (o := _) rfl (fun K hK => ?_) AllReadyH.nil))
  · go_simp
    rw [show Obj.cells #[.int .i64 7, .int .i64 1, .int .i64 1, .int .i64 100, .slice (some ⟨q1, 0, none⟩) 1 1, .int .i64 8, .int .i64 1, .int .i64 2, .int .i64 200, .slice (some ⟨q2, 0, none⟩) 1 1, .int .i64 9, .int .i64 1, .int .i64 3, .int .i64 600, .slice (some ⟨q3, 0, none⟩) 1 1] 57 = ob from HOB.out.symm]
    refine hK.out _ _ ((alloc_old _ (Rg.lt_of_heap hHeld)).trans hHeld) (fun hHeld => ?_)
    clear hK K
    refine wpAnyH_ready (rs := [8]) (by kernel_rfl) (by simp) (AllReadyH.cons (o := _) rfl (fun K hK => ?_) AllReadyH.nil)
    rw [if_pos (by rfl)]
    refine op_store_row 39 (.tmp 0) (.tmp 11) rfl w.heap.size (by rfl) row (by rfl) _ 39 ((alloc_old _ hl5).trans hD5) (by rw [hrs]; rfl) hi39 hone ?_
    simp only [Act.put]
    refine hK.out _ _ ((setRow_other _ _ _ _ (by omega)).trans hHeld) (fun hHeld => ?_)
    clear hK K
    refine wpAnyH_take (i := 9) (oi := { dst := some 1, op := .assign (.tmp 18), type := _, pos := _, after := _, guard := none }) (v := .slice (some ⟨w5.heap.size, 0, none⟩) 3 3) rfl (by kernel_rfl) (by kernel_rfl) (by kernel_rfl) (fun _ _ _ h => h) (Or.inl ⟨by rfl, fun wz hz => by go_simp⟩) hHeld ?_
    simp only [Act.put, List.setIfInBounds_toArray, List.set_cons_zero, List.set_cons_succ]
    refine wpAnyH_done (by kernel_rfl) ?_ _
    go_wp2_with (fail)
    have hkx : KX w.heap.size w5 ((w5.alloc ob).setRow w.heap.size row) := (KX.of_ext (Ext.alloc (Ext.refl w5) ob)).trans (KX.setRow' _ _ _)
    exact bodyPost_ret (v := .tuple #[.agg row, .slice (some ⟨w5.heap.size, 0, none⟩) 3 3]) (results_cell1t Tryz.results27 _ _ w.heap.size 39 _ _ _ (.slice (some ⟨w5.heap.size, 0, none⟩) 3 3) (by rfl) (by rfl) (setRow_heap _ _ _ row _ _ ((alloc_old _ hl5).trans hD5)) Tryz.underlying39 hi39) rfl (fin _ hkx ((setRow_other _ _ _ _ (Nat.ne_of_gt hl5)).trans (alloc_new w5 ob)))
  · rw [if_pos (by rfl)]
    refine op_store_row 39 (.tmp 0) (.tmp 11) rfl w.heap.size (by rfl) row (by rfl) _ 39 hD5 (by rw [hrs]; rfl) hi39 hone ?_
    simp only [Act.put]
    refine hK.out _ _ ((setRow_other _ _ _ _ (by omega)).trans hHeld) (fun hHeld => ?_)
    clear hK K
    refine wpAnyH_ready (rs := [7]) (by kernel_rfl) (by simp) (AllReadyH.cons (o := _) rfl (fun K hK => ?_) AllReadyH.nil)
    go_simp
    rw [show Obj.cells #[.int .i64 7, .int .i64 1, .int .i64 1, .int .i64 100, .slice (some ⟨q1, 0, none⟩) 1 1, .int .i64 8, .int .i64 1, .int .i64 2, .int .i64 200, .slice (some ⟨q2, 0, none⟩) 1 1, .int .i64 9, .int .i64 1, .int .i64 3, .int .i64 600, .slice (some ⟨q3, 0, none⟩) 1 1] 57 = ob from HOB.out.symm]
    have hsz6 : (w5.setRow w.heap.size row).heap.size = w5.heap.size := by simp
    refine hK.out _ _ ((alloc_old _ (Rg.lt_of_heap hHeld)).trans hHeld) (fun hHeld => ?_)
    clear hK K
    refine wpAnyH_take (i := 9) (oi := { dst := some 1, op := .assign (.tmp 18), type := _, pos := _, after := _, guard := none }) (v := .slice (some ⟨w5.heap.size, 0, none⟩) 3 3) rfl (by kernel_rfl) (by kernel_rfl) (by kernel_rfl) (fun _ _ _ h => h) (Or.inl ⟨by rfl, fun wz hz => by go_simp⟩) hHeld ?_
    simp only [Act.put, List.setIfInBounds_toArray, List.set_cons_zero, List.set_cons_succ]
    refine wpAnyH_done (by kernel_rfl) ?_ _
    go_wp2_with (fail)
    have hkx : KX w.heap.size w5 ((w5.setRow w.heap.size row).alloc ob) := (KX.setRow' _ _ _).trans (KX.of_ext (Ext.alloc (Ext.refl _) ob))
    exact bodyPost_ret (v := .tuple #[.agg row, .slice (some ⟨w5.heap.size, 0, none⟩) 3 3]) (results_cell1t Tryz.results27 _ _ w.heap.size 39 _ _ _ (.slice (some ⟨w5.heap.size, 0, none⟩) 3 3) (by rfl) (by rfl) ((alloc_old _ (by rw [hsz6]; exact hl5)).trans (setRow_heap _ _ _ row _ _ hD5)) Tryz.underlying39 hi39) rfl (fin _ hkx (by rw [← hsz6]; exact alloc_new _ ob))
end Go.Proofs.YteomcpplajeidaaGreat
namespace Go.Proofs.YteomcpplajeidaaGreat
set_option linter.unusedVariables false
set_option linter.unusedSimpArgs false
set_option maxRecDepth 100000
open Go.RowKit
theorem flat_len {α : Type} {cs : α → List Value} {sz : Nat} (hc1 : ∀ u, (cs u).length = sz) : ∀ us : List α, (us.flatMap cs).length = us.length * sz
  | [] => by simp
  | u :: us => by rw [List.flatMap_cons, List.length_append, flat_len hc1 us, hc1 u, List.length_cons, Nat.add_mul, Nat.one_mul, Nat.add_comm]
theorem append_rows {α : Type} {cs : α → List Value} {sz : Nat} (T E bytes : Nat) {z : Value} (hT : Tryz.prog.underlying T = some (.slice E))
    (hinfo : (Tryz.prog.info? E).map (fun i => (i.zero, i.size, i.bytes)) = some (some z, sz, bytes)) (hz : z.cells.size = sz) (h0 : 0 < sz) (hby : bytes ≤ 100000)
    {ops : Array Oper} {rest : List Oper} {o : Oper} {a : Act} {Q : Exit → Act → World → Prop} {w : World} (hgd : o.guard = none) (s x : Operand)
    (ho : o.op = .call { callee := .builtin .append, args := #[s, x], argTypes := #[T, T] }) (B : Nat) (v : Value) (vs : List α) (hs : a.eval s = v) (hF : w.ownsRow B E sz v vs.length (vs.flatMap cs))
    (hc1 : ∀ u, (cs u).length = sz ∧ ∀ c ∈ cs u, c.oneCell' = true)
    (A : Option Addr) (c : Nat) (us : List α) (hx : a.eval x = .slice A us.length c) (hu : us = [] ∨ ∃ b off, A = some ⟨b, off, none⟩ ∧ ∀ j u, (us.flatMap cs)[j]? = some u → w.cell? ⟨b, off + j, none⟩ = some u)
    (hn : vs.length + us.length ≤ 1000000) (hB : B ≤ w.heap.size)
    (h : ∀ v' w', w'.ownsRow B E sz v' (vs ++ us).length ((vs ++ us).flatMap cs) → w.grownBy w' v.ownBlock → wpList Tryz.prog ops Q rest (a.put o.dst v') w') : wpList Tryz.prog ops Q (o :: rest) a w := by
  obtain ⟨i0, hi, hz0, hz1, hz2⟩ := info_parts hinfo
  refine wpList_plain hgd fun K hK => ?_
  by_cases h0' : us = []
  · subst h0'
    obtain ⟨base, cap, hv, hle⟩ : ∃ base cap, v = .slice base vs.length cap ∧ vs.length ≤ cap := by
      rcases hF.2 with ⟨hn, h0⟩ | ⟨g, cap', cur, hv, hb, hg, h1, h2, h3, h4⟩
      · exact ⟨none, 0, by rw [hn, h0], by omega⟩
      · exact ⟨_, cap', hv, h1⟩
    have hsrc : Src Tryz.prog i0.size T (.slice A 0 c) 0 [] w := by
      rw [hz1]
      cases A with
      | none => exact Src.ofNil w hT c
      | some a => exact Src.ofSlice w hT a 0 c _ (by simp) (by simp) (by simp)
    have hr := run_append_nothing (P := Tryz.prog) w T T o.type E i0 hT hi base vs.length cap hle (.slice A 0 c) hsrc
    rw [← hv] at hr
    unfold Oper.wp execOp
    simp only [List.length_nil] at hx
    simp only [ho, resolve, invoke, builtin, Sem.run_bind, Sem.run_pure, Result.andThen_ok, List.map_toArray, List.map_cons, List.map_nil, hs, hx, hr]
    exact hK _ _ (h v w (by simpa using hF) ⟨rfl, rfl, rfl, Nat.le_refl _, fun _ _ _ => rfl⟩)
  · obtain ⟨b, off, rfl, hcell⟩ := hu.resolve_left h0'
    have hpos : 0 < us.length := List.length_pos_iff.2 h0'
    have hby2 : (vs.length + us.length) * bytes ≤ 1000000 * 100000 := Nat.mul_le_mul (by omega) hby
    obtain ⟨g, cap', w', hr, h2, h3, h4, h5⟩ := run_append_lies (P := Tryz.prog) w T o.type B E i0 _ sz bytes hT hi hz0 hz1 hz2 hz h0 v vs.length _ hF ⟨b, off, none⟩ us.length c (us.flatMap cs) (flat_len (fun u => (hc1 u).1) us)
      (by
        intro j u hu
        rw [Go.WideShapes.add_plain]
        exact hcell j u hu) (by intro u hu; obtain ⟨z, -, hz⟩ := List.mem_flatMap.1 hu; exact (hc1 z).2 u hz) hpos (by unfold maxLen; omega) (by omega) hB w.heap.size rfl
    unfold Oper.wp execOp
    simp only [ho, resolve, invoke, builtin, Sem.run_bind, Sem.run_pure, Result.andThen_ok, List.map_toArray, List.map_cons, List.map_nil, hs, hx, hr] at *
    refine hK _ w' (h _ w' ?_ h3)
    rw [List.flatMap_append, List.length_append]
    exact h2
theorem own_src {B E sz n : Nat} {w : World} {A : Option Addr} {c : Nat} {xs : List Value} (h : w.ownsRow B E sz (.slice A n c) n xs) : n = 0 ∨ ∃ b off, A = some ⟨b, off, none⟩ ∧ ∀ j u, xs[j]? = some u → w.cell? ⟨b, off + j, none⟩ = some u := by
  have h' := h
  rcases h.2 with ⟨hn, h0⟩ | ⟨g, cap, cur, hv, hb, hg, h1, h2, h3, h4⟩
  · exact .inl h0
  · injection hv with e1 e2 e3
    subst e1
    refine .inr ⟨g, 0, rfl, fun j u hj => ?_⟩
    have hl : j < n * sz := h.1 ▸ (List.getElem?_eq_some_iff.1 hj).1
    rw [Nat.zero_add, World.ownsRow.cellAt h' j hl, hj]
end Go.Proofs.YteomcpplajeidaaGreat
