/-
  maps.Keys and slices.Collect over it, at places and at ints. Condition: what the map holds.
-/
import Derived.Test.YtnplnfkmcfalhaaGreatDoorGdK
import Derived.RangeFuncBox
import Derived.RangeFuncLeaves
import Derived.RangeFuncNested
import Derived.OwnWalkIn
import Derived.TacticsInMore
import Derived.LoopNIn
import Derived.LoopIn
import Derived.Maps.OwnIn
import Derived.Maps.AppendAt
namespace Go.Proofs.YtnplnfkmcfalhaaGreatDoor
set_option linter.unusedVariables false
set_option linter.unusedSimpArgs false
open Go.RowKit Go.Shelf

attribute [local go_sem] Oper.semAt_some
theorem wide_fn (f : FuncId) : Fence.wide.fn f := trivial
@[local simp, local go_sem] theorem wide_fn' (f : FuncId) : Fence.wide.fn f = True := rfl
@[local simp, local go_sem] theorem wide_depth : Fence.wide.depth = none := rfl
section
variable {κ : Type} {enc : κ → Value} {good : κ → Prop} {P : Program} {w w' : World} {m left : List (κ × Value)} {o : Option Nat} {r : Nat}
theorem RGO.walks (h : RGO enc good w o r m left) (k : KeepsWalks w w') : RGO enc good w' o r m left := by
  cases o with
  | none => exact ⟨h.1, k.same r _ h.2 rfl⟩
  | some b =>
    have h0 : RG enc good w b r m left := h
    obtain ⟨-, -, es, clock, since, seen, c0, hb, hr, -⟩ := id h0
    exact RG.of_blocks h0 ((k.same b _ hb rfl).trans hb.symm) ((k.same r _ hr rfl).trans hr.symm)
variable {F : Fence} {nF : Nat} {ops : Array Oper} {rest : List Oper} {op : Oper} {a : Act} {Q : Exit → Act → World → Prop}
theorem wpListIn_rangeO (hg : op.guard = none) (x : Operand) (t : TypeId) (hop : op.op = Op.range t x) (k e : TypeId) (ht : P.underlying t = some (.map k e)) (o : Option Nat) (l : List (κ × Value)) (hm : a.eval x = .map o) (h : MPO enc good w o l)
    (hK : ∀ w', RGO enc good w' o w.heap.size l l → Ext w w' → w.grownBy w' none → wpListIn F nF P ops Q rest (a.put op.dst (.pointer (some ⟨w.heap.size, 0, none⟩))) w') : wpListIn F nF P ops Q (op :: rest) a w := by
  refine wpListIn_plain hg fun K' hK' => ?_
  have hrun : ∃ w', (Instr.range t (.map o)).run P w = .ok (.pointer (some ⟨w.heap.size, 0, none⟩)) w' ∧ RGO enc good w' o w.heap.size l l ∧ Ext w w' := by
    cases o with
    | none => exact ⟨_, run_range_nilMap (P := P) w t k e ht, ⟨h, heap_alloc_new w _⟩, Ext.alloc (Ext.refl _) _⟩
    | some b =>
      obtain ⟨w', h1, h2, h3, -⟩ := MP.range (show MP enc good w b l from h) ht
      exact ⟨w', h1, h2, h3⟩
  obtain ⟨w', h1, h2, h3⟩ := hrun
  unfold Oper.wpIn
  refine ⟨by simp [Oper.about, hop], ?_⟩
  rw [Oper.semAt_plain F _ _ (by rw [hop]; intro c hc'; cases hc')]
  simp [execOp, hop, hm, h1, Result.andThen]
  exact hK' _ _ (hK w' h2 h3 ⟨h3.os, h3.tape, h3.output, h3.size, fun k hk _ => h3.block k hk⟩)
theorem wpListIn_nextO (hg : op.guard = none) (it : Operand) (hop : op.op = Op.next it false) (o : Option Nat) (r : Nat) (l left : List (κ × Value)) (hit : a.eval it = .pointer (some ⟨r, 0, none⟩)) (h : RGO enc good w o r l left)
    (hDone : left = [] → wpListIn F nF P ops Q rest (a.put op.dst (.tuple #[.bool false])) w)
    (hMore : ∀ b pre x v post w', o = some b → left = pre ++ (x, v) :: post → RGO enc good w' o r l (pre ++ post) → w.grownBy w' (some r) → (∃ ob : Obj, w.heap[r]? = some ob ∧ ob.isWalk = true) → (Instr.entry (.pointer (some ⟨r, 0, none⟩))).run P w' = .ok (.tuple #[enc x, v]) w' → wpListIn F nF P ops Q rest (a.put op.dst (.tuple #[.bool true, enc x, v])) w') : wpListIn F nF P ops Q (op :: rest) a w := by
  refine wpListIn_plain hg fun K' hK' => ?_
  unfold Oper.wpIn
  refine ⟨by simp [Oper.about, hop], ?_⟩
  rw [Oper.semAt_plain F _ _ (by rw [hop]; intro c hc'; cases hc')]
  cases o with
  | none =>
    have hrun : (Instr.next (.pointer (some ⟨r, 0, none⟩)) false op.type).run P w = .ok (.tuple #[.bool false]) w := by
      simp only [Instr.next, getObj, Sem.run_bind, Sem.run, h.2, Result.andThen]
      rfl
    simp [execOp, hop, hit, hrun, Result.andThen]
    exact hK' _ _ (hDone h.1)
  | some b =>
    have h0 : RG enc good w b r l left := h
    obtain ⟨-, -, es, clock, since, seen, c0, hb, hr, -⟩ := id h0
    rcases RG.next (P := P) h0 op.type with ⟨hl, hrun⟩ | ⟨pre, x, v, post, w', hl, hrun, h2, h3, h4, h5⟩
    · simp [execOp, hop, hit, hrun, Result.andThen]
      exact hK' _ _ (hDone hl)
    · simp [execOp, hop, hit, hrun, Result.andThen]
      exact hK' _ _ (hMore b pre x v post w' rfl hl h2 h3 ⟨_, hr, rfl⟩ h5)
end
theorem perm_mid {α β : Type} (f : α → β) (pre post : List α) (x : α) (acc : List β) {t : List β} (h : (acc ++ (pre ++ x :: post).map f).Perm t) : ((acc ++ [f x]) ++ (pre ++ post).map f).Perm t := by
  refine List.Perm.trans ?_ h
  rw [List.append_assoc]
  refine List.Perm.append_left acc ?_
  rw [List.map_append, List.map_append, List.map_cons]
  exact (List.perm_middle (a := f x) (l₁ := pre.map f) (l₂ := post.map f)).symm
def plC (p : Pl) : List Value := [.int .i64 p.bid, .int .i64 p.lot, .string p.name, .int .i64 p.ass]

set_option maxRecDepth 100000 in
set_option maxHeartbeats 1000000 in
/-- The iterator's rounds: the keys come, each once. -/
theorem keysP_in (n : Nat) (hn : 1 ≤ n) (l Bm : Nat) (o : Option Nat) (m : List (Pl × Value)) (J Jx : List Pl → World → Prop) (W : World) (hJ : AbidesFrom W.heap.size J)
    (hY : ∀ pre x W, J pre W → pre.length < m.length → YieldAt Fence.wide (n - 1) Tryz.prog l #[encP x] W fun e W' => (e = .returned (.bool true) ∧ J (pre ++ [x]) W' ∧ KeepsWalks W W') ∨ (e = .returned (.bool false) ∧ Jx (pre ++ [x]) W'))
    (hm : W.cell? ⟨Bm, 0, none⟩ = some (.map o)) (hM : MPO encP OkP W o m) (h0 : J [] W) :
    CallsIn Fence.wide n Tryz.prog 74 #[.func (.yield l) #[] #[], .pointer (some ⟨Bm, 0, none⟩)] W fun e W' => (∃ v, e = .returned v) ∧ ((∃ xs : List Pl, xs.Perm (m.map (·.1)) ∧ J xs W') ∨ (∃ pre, True ∧ Jx pre W')) := by
  refine callsIn_of_wp Tryz.func74 rfl (wide_fn 74) ?_ rfl
  simp only [Tryz.ntmps74, List.size_toArray, List.length_cons, List.length_nil, Nat.reduceAdd, Nat.reduceSub, Array.replicate_succ, Array.replicate_zero, List.push_toArray, List.append_toArray, List.nil_append, List.cons_append]
  gi_wp2_with (first
    | (gi_at_range; refine wpListIn_rangeO rfl _ 38 rfl 91 23 Tryz.underlying38 o m rfl hM ?_; intro w1 hrg hx1 hg1)
    | gi_in)
  go_frame
  gi_loopw [3] (fun _ wr => ∃ (left : List (Pl × Value)) (pre : List Pl), RGO encP OkP wr o W.heap.size m left ∧ (pre ++ left.map (·.1)).Perm (m.map (·.1)) ∧ J pre wr) (fun _ wr => leftO wr o W.heap.size)
  case atStart => exact ⟨m, [], hrg, by simp, hJ [] W w1 none h0 hg1 (fun r e => by cases e)⟩
  case round =>
    obtain ⟨left, pre, hrgr, hperm, hJp⟩ := hrel
    gi_wp2_with (first
      | (gi_at_next; refine wpListIn_nextO rfl _ rfl o W.heap.size m left rfl hrgr ?_ ?_)
      | gi_in)
    · intro hl
      subst hl
      gi_wp2
      go_end0
      exact ⟨⟨_, rfl⟩, .inl ⟨pre, by simpa using hperm, hJp⟩⟩
    · intro b pr x v post w2 ho hl hrg2 hg2 ob hob hwk hen
      have hlt : pre.length < m.length := by
        have := hperm.length_eq
        rw [hl] at this
        simp at this
        omega
      have hms : leftO w2 o W.heap.size < leftO wr o W.heap.size := by
        rw [leftO_eq hrg2, leftO_eq hrgr, hl]
        simp
      have hJ2 : J pre w2 := hJ pre wr w2 (some W.heap.size) hJp hg2 (fun r e => by cases e; exact ⟨Nat.le_refl _, ob, hob, hwk⟩)
      rw [hl] at hperm
      have hp2 := perm_mid (fun p : Pl × Value => p.1) pr post (x, v) pre hperm
      clear hperm hob hwk hg2 hl ho
      obtain ⟨xb, xl, xn, xa⟩ := x
      simp only [encP] at hen
      have hJ3 : J pre (w2.alloc (.cells #[.int .i64 xb, .int .i64 xl, .string xn, .int .i64 xa] 91)) := hJ pre w2 _ none hJ2 (World.grownBy_alloc _ _ _) (fun r e => by cases e)
      obtain ⟨fn, tmps, assign, body, hy, hR⟩ := hY pre ⟨xb, xl, xn, xa⟩ _ hJ3 hlt
      clear hJ2
      simp only [encP] at hy
      gi_wp2
      refine hR.mono ?_
      rintro e W3 (⟨rfl, hJ4, hk4⟩ | ⟨rfl, hJx4⟩)
      · gi_wp2
        have hrg4 := (hrg2.ext (Ext.alloc (Ext.refl w2) (.cells #[.int .i64 xb, .int .i64 xl, .string xn, .int .i64 xa] 91))).walks hk4
        go_roundw
        case rel => exact ⟨_, _, hrg4, hp2, hJ4⟩
        case measure => rw [leftO_eq hrg4, ← leftO_eq hrg2]; exact hms
      · gi_wp2
        refine bodyPost_ret (results_none rfl _ _ _) rfl ?_
        exact ⟨⟨_, rfl⟩, .inr ⟨_, trivial, hJx4⟩⟩

theorem keysP_stops (n : Nat) (hn : 1 ≤ n) (Bm : Nat) (o : Option Nat) (m : List (Pl × Value)) (w : World) (hB : Bm < w.heap.size) (hm : w.cell? ⟨Bm, 0, none⟩ = some (.map o)) (hM : ∀ W, Ext w W → MPO encP OkP W o m) :
    SeqStopsK Fence.wide n Tryz.prog 74 #[.pointer (some ⟨Bm, 0, none⟩)] (fun x : Pl => #[encP x]) KeepsWalks (fun xs => xs.Perm (m.map (·.1))) (fun _ => True) m.length w := fun l J Jx W hW hJ _ hY h0 =>
  keysP_in n hn l Bm o m J Jx W hJ hY ((hW.cell (p := ⟨Bm, 0, none⟩) hB).trans hm) (hM W hW) h0

set_option maxRecDepth 100000 in
set_option maxHeartbeats 1000000 in
theorem appP_in (n : Nat) (hn : 2 ≤ n) (Bm : Nat) (o : Option Nat) (m : List (Pl × Value)) (w : World) (hB : Bm < w.heap.size) (hm : w.cell? ⟨Bm, 0, none⟩ = some (.map o)) (hM : ∀ W, Ext w W → MPO encP OkP W o m) (hl : m.length ≤ 1000000) :
    CallsIn Fence.wide n Tryz.prog 87 #[.slice none 0 0, .func (.func 74) #[] #[.pointer (some ⟨Bm, 0, none⟩)]] w fun e w' => ∃ (v : Value) (ks : List Pl), e = .returned v ∧ ks.Perm (m.map (·.1)) ∧ w'.ownsRow w.heap.size 91 4 v ks.length (ks.flatMap plC) ∧ Ext w w' := by
  refine callsIn_of_wp_marks Tryz.func87 rfl (wide_fn 87) ?_ rfl
  simp only [Tryz.ntmps87, List.size_toArray, List.length_cons, List.length_nil, Nat.reduceAdd, Nat.reduceSub, Array.replicate_succ, Array.replicate_zero, List.push_toArray, List.append_toArray, List.nil_append, List.cons_append]
  gi_wp2
  have hbx : Boxed (w.alloc (.cells #[.slice none 0 0] 100)) w.heap.size 100 (.slice none 0 0) := Boxed.new w 100 _
  have hR0 : Below w.heap.size w (w.alloc (.cells #[.slice none 0 0] 100)) := (Below.refl _ w).alloc (Nat.le_refl _) _
  have hm0 := (hR0.cell (p := ⟨Bm, 0, none⟩) hB).trans hm
  have hM0 : ∀ W, Ext (w.alloc (.cells #[.slice none 0 0] 100)) W → MPO encP OkP W o m := fun W hW => hM W (Ext.trans (Ext.alloc (Ext.refl w) _) hW)
  obtain ⟨i0, hi, hz0, hz1, hz2⟩ := info_parts (show (Tryz.prog.info? 91).map (fun i => (i.zero, i.size, i.bytes)) = some (some (.agg #[.int .i64 0, .int .i64 0, .string ⟨#[]⟩, .int .i64 0]), 4, 40) by kernel_rfl)
  generalize hW0 : w.alloc (.cells #[.slice none 0 0] 100) = W0 at *
  have hsz : W0.heap.size = w.heap.size + 1 := by rw [← hW0]; simp
  refine wpIn_rangeFunc_ownH rfl (by omega) (gf := 74) (lb := #[.pointer (some ⟨Bm, 0, none⟩)]) rfl (wide_fn 74) (enters_of Tryz.func74 (by kernel_rfl) rfl)
    (keysP_stops (n - 1) (by omega) Bm o m W0 (by omega) hm0 hM0) walksK_t walksK_b (Below.refl _ _) (fun _ => rfl)
    (fun pre W => ∃ v, Boxed W w.heap.size 100 v ∧ W.ownsRow w.heap.size 91 4 v pre.length (pre.flatMap plC) ∧ Below w.heap.size w W)
    (fun _ _ _ => False) ?hI (fun _ _ _ _ _ hs _ _ => hs) ⟨_, hbx, World.ownsRow_nil _ _ _ _, hR0⟩
    (fun x a' W => ∃ p, a' = { tmps := #[.slice none 0 0, .func (.func 74) #[] #[.pointer (some ⟨Bm, 0, none⟩)], .pointer (some ⟨w.heap.size, 0, none⟩), undef, .slice none 0 0, .pointer (some ⟨p, 0, none⟩), .func (.func 74) #[] #[.pointer (some ⟨Bm, 0, none⟩)], .agg #[.int .i64 x.bid, .int .i64 x.lot, .string x.name, .int .i64 x.ass], undef, undef, undef, undef, undef], defers := [] } ∧ W.heap[p]? = some (.cells #[.int .i64 x.bid, .int .i64 x.lot, .string x.name, .int .i64 x.ass] 91)) ?hAx ?assign ?body ?done ?stop
  case hI =>
    intro pre W W' row hs hg hr
    obtain ⟨v, h1, h2, h3⟩ := hs
    refine ⟨v, h1.kept hg (fun e => by have := (hr _ e.symm).1; omega), row_of_block h2 (fun k hk => hg.block k (h2.lt k hk).2 (fun e => ?_)), h3.trans ⟨hg.os, hg.tape, hg.output, hg.size, fun k hk => hg.block k (by have := h3.size; omega) (fun e => by have := (hr _ e.symm).1; omega)⟩⟩
    obtain ⟨cs, hc⟩ := row_block h2 hk
    obtain ⟨-, ob, h4, h5⟩ := hr k e.symm
    rw [hc] at h4
    cases h4
    cases h5
  case hAx => 
    rintro x a' _ W W' row ⟨p, rfl, hp⟩ hg hr
    refine ⟨p, rfl, (hg.block p (Array.getElem?_eq_some_iff.1 hp).1 (fun e => ?_)).trans hp⟩
    obtain ⟨-, o, ho, ho'⟩ := hr p e.symm
    rw [hp] at ho; cases ho; cases ho'
  case assign => 
    rintro l pre x W K ⟨v, h1, h2, h3⟩ hK
    obtain ⟨xb, xl, xn, xa⟩ := x
    gi_wp2
    exact hK _ _ ((KeepsOthers.alloc W _).from _) (KeepsWalks.alloc W _) ⟨v, h1.alloc _, row_ext h2 (Ext.alloc (Ext.refl _) _), h3.alloc h3.size _⟩ ⟨_, rfl, World.alloc_heap_new W _⟩
  case body =>
    rintro l pre x a' W hl0 ⟨r, hr⟩ ⟨v, h1, h2, h3⟩ ⟨p, rfl, hp⟩ hN
    obtain ⟨vb, vcp, rfl⟩ := (SR.of_row (cs := plC) (fun _ => rfl) h2 (by omega)).form
    have hc := h1.cell
    have hfz := h1.frozen
    have q0 := cell_of_row W p 0 _ _ _ hp
    have q1 := cell_of_row W p 1 _ _ _ hp
    have q2 := cell_of_row W p 2 _ _ _ hp
    have q3 := cell_of_row W p 3 _ _ _ hp
    gi_wp2_with (gi_at_builtin; refine wpListIn_append_own _ rfl _ _ 100 rfl w.heap.size 91 i0 _ 4 40 Tryz.underlying100 hi hz0 hz1 hz2 rfl (by decide) _ pre.length _ rfl (row_ext h2 (Ext.alloc (Ext.refl W) _)) ⟨W.heap.size, 0, none⟩ 1 1 (plC x) rfl rfl (fun j u hj => by rw [addr_add, cell_of_row _ _ _ _ _ _ (heap_alloc_new W _)]; simpa [plC] using hj) (by simp [plC, Value.oneCell']) (by unfold maxLen; omega) (by omega) (by have := h3.size; simp; omega) ?_; intro v' w1 hown' hgrow _; obtain ⟨g', cap', rfl⟩ := ownsRow_succ hown'; obtain ⟨hv1, hv2, hr2, hk2, hb2⟩ := h1.appended (by decide) h2 h3.size (Nat.le_refl _) hown' hgrow; have hc1 := hv1.cell; have hf1 := hv1.frozen)
    refine ⟨hk2.from _, hk2.walks, _, hv2, ?_, h3.trans hb2⟩
    rw [List.flatMap_append, List.length_append]
    simpa using hr2
  case done =>
    rintro D ys W hD hys ⟨v, h1, h2, h3⟩ hK
    have hc := h1.cell
    obtain ⟨vb, vcp, rfl⟩ := (SR.of_row (cs := plC) (fun _ => rfl) h2 (by have := hys.length_eq; simp at this; omega)).form
    gi_wp2
    refine ⟨by simp, .inl ⟨_, _, rfl, run_takeDeferred hK, ?_⟩⟩
    refine ⟨_, results_tmp rfl _ _ _, _, ys, rfl, hys, row_of_block h2 (fun k hk => World.putObj_heap_other (fun e => ?_)), h3.trans (belowK_b (w := w) (Nat.le_refl _) W D _ _ (by omega) hK rfl rfl)⟩
    obtain ⟨cs, hcc⟩ := row_block h2 hk
    rw [e, hK] at hcc
    cases hcc
  case stop =>
    rintro D c pre W _ _ h _
    exact h.elim
theorem collectP (Bm : Nat) (o : Option Nat) (m : List (Pl × Value)) (w : World) (hB : Bm < w.heap.size) (hm : w.cell? ⟨Bm, 0, none⟩ = some (.map o)) (hM : ∀ W, Ext w W → MPO encP OkP W o m) (hl : m.length ≤ 1000000) :
    Calls Tryz.prog 72 #[.func (.func 74) #[] #[.pointer (some ⟨Bm, 0, none⟩)]] w fun e w' => ∃ (v : Value) (ks : List Pl), e = .returned v ∧ ks.Perm (m.map (·.1)) ∧ w'.ownsRow w.heap.size 91 4 v ks.length (ks.flatMap plC) ∧ Ext w w' := by
  have hA := callsIn_wide.1 (appP_in 2 (Nat.le_refl _) Bm o m w hB hm hM hl)
  go_enter Tryz.func72, Tryz.ntmps72
  go_wp2_with (go_at_call 87; (with_reducible refine hA.mono ?_); rintro e w2 ⟨v, ks, rfl, hp, hr, hx⟩)
  go_ret
  exact ⟨v, ks, rfl, hp, hr, hx⟩

set_option maxRecDepth 100000 in
set_option maxHeartbeats 1000000 in
/-- The iterator's rounds: the keys come, each once. -/
theorem keysI_in (n : Nat) (hn : 1 ≤ n) (l Bm : Nat) (o : Option Nat) (m : List (Int × Value)) (J Jx : List Int → World → Prop) (W : World) (hJ : AbidesFrom W.heap.size J)
    (hY : ∀ pre x W, J pre W → pre.length < m.length → YieldAt Fence.wide (n - 1) Tryz.prog l #[encI x] W fun e W' => (e = .returned (.bool true) ∧ J (pre ++ [x]) W' ∧ KeepsWalks W W') ∨ (e = .returned (.bool false) ∧ Jx (pre ++ [x]) W'))
    (hm : W.cell? ⟨Bm, 0, none⟩ = some (.map o)) (hM : MPO encI OkI W o m) (h0 : J [] W) :
    CallsIn Fence.wide n Tryz.prog 80 #[.func (.yield l) #[] #[], .pointer (some ⟨Bm, 0, none⟩)] W fun e W' => (∃ v, e = .returned v) ∧ ((∃ xs : List Int, xs.Perm (m.map (·.1)) ∧ J xs W') ∨ (∃ pre, True ∧ Jx pre W')) := by
  refine callsIn_of_wp Tryz.func80 rfl (wide_fn 80) ?_ rfl
  simp only [Tryz.ntmps80, List.size_toArray, List.length_cons, List.length_nil, Nat.reduceAdd, Nat.reduceSub, Array.replicate_succ, Array.replicate_zero, List.push_toArray, List.append_toArray, List.nil_append, List.cons_append]
  gi_wp2_with (first
    | (gi_at_range; refine wpListIn_rangeO rfl _ 35 rfl 3 4 Tryz.underlying35 o m rfl hM ?_; intro w1 hrg hx1 hg1)
    | gi_in)
  go_frame
  gi_loopw [3] (fun _ wr => ∃ (left : List (Int × Value)) (pre : List Int), RGO encI OkI wr o W.heap.size m left ∧ (pre ++ left.map (·.1)).Perm (m.map (·.1)) ∧ J pre wr) (fun _ wr => leftO wr o W.heap.size)
  case atStart => exact ⟨m, [], hrg, by simp, hJ [] W w1 none h0 hg1 (fun r e => by cases e)⟩
  case round =>
    obtain ⟨left, pre, hrgr, hperm, hJp⟩ := hrel
    gi_wp2_with (first
      | (gi_at_next; refine wpListIn_nextO rfl _ rfl o W.heap.size m left rfl hrgr ?_ ?_)
      | gi_in)
    · intro hl
      subst hl
      gi_wp2
      go_end0
      exact ⟨⟨_, rfl⟩, .inl ⟨pre, by simpa using hperm, hJp⟩⟩
    · intro b pr x v post w2 ho hl hrg2 hg2 ob hob hwk hen
      have hlt : pre.length < m.length := by
        have := hperm.length_eq
        rw [hl] at this
        simp at this
        omega
      have hms : leftO w2 o W.heap.size < leftO wr o W.heap.size := by
        rw [leftO_eq hrg2, leftO_eq hrgr, hl]
        simp
      have hJ2 : J pre w2 := hJ pre wr w2 (some W.heap.size) hJp hg2 (fun r e => by cases e; exact ⟨Nat.le_refl _, ob, hob, hwk⟩)
      rw [hl] at hperm
      have hp2 := perm_mid (fun p : Int × Value => p.1) pr post (x, v) pre hperm
      clear hperm hob hwk hg2 hl ho
      skip
      have hJ3 := hJ2
      obtain ⟨fn, tmps, assign, body, hy, hR⟩ := hY pre x _ hJ3 hlt
      clear hJ2
      simp only [encI] at hy hen
      gi_wp2
      refine hR.mono ?_
      rintro e W3 (⟨rfl, hJ4, hk4⟩ | ⟨rfl, hJx4⟩)
      · gi_wp2
        have hrg4 := hrg2.walks hk4
        go_roundw
        case rel => exact ⟨_, _, hrg4, hp2, hJ4⟩
        case measure => rw [leftO_eq hrg4, ← leftO_eq hrg2]; exact hms
      · gi_wp2
        refine bodyPost_ret (results_none rfl _ _ _) rfl ?_
        exact ⟨⟨_, rfl⟩, .inr ⟨_, trivial, hJx4⟩⟩

theorem keysI_stops (n : Nat) (hn : 1 ≤ n) (Bm : Nat) (o : Option Nat) (m : List (Int × Value)) (w : World) (hB : Bm < w.heap.size) (hm : w.cell? ⟨Bm, 0, none⟩ = some (.map o)) (hM : ∀ W, Ext w W → MPO encI OkI W o m) :
    SeqStopsK Fence.wide n Tryz.prog 80 #[.pointer (some ⟨Bm, 0, none⟩)] (fun x : Int => #[encI x]) KeepsWalks (fun xs => xs.Perm (m.map (·.1))) (fun _ => True) m.length w := fun l J Jx W hW hJ _ hY h0 =>
  keysI_in n hn l Bm o m J Jx W hJ hY ((hW.cell (p := ⟨Bm, 0, none⟩) hB).trans hm) (hM W hW) h0

set_option maxRecDepth 100000 in
set_option maxHeartbeats 1000000 in
theorem appI_in (n : Nat) (hn : 2 ≤ n) (Bm : Nat) (o : Option Nat) (m : List (Int × Value)) (w : World) (hB : Bm < w.heap.size) (hm : w.cell? ⟨Bm, 0, none⟩ = some (.map o)) (hM : ∀ W, Ext w W → MPO encI OkI W o m) (hl : m.length ≤ 1000000) :
    CallsIn Fence.wide n Tryz.prog 90 #[.slice none 0 0, .func (.func 80) #[] #[.pointer (some ⟨Bm, 0, none⟩)]] w fun e w' => ∃ (v : Value) (ks : List Int), e = .returned v ∧ ks.Perm (m.map (·.1)) ∧ w'.ownsRow w.heap.size 3 1 v ks.length (ks.flatMap celI) ∧ Ext w w' := by
  refine callsIn_of_wp_marks Tryz.func90 rfl (wide_fn 90) ?_ rfl
  simp only [Tryz.ntmps90, List.size_toArray, List.length_cons, List.length_nil, Nat.reduceAdd, Nat.reduceSub, Array.replicate_succ, Array.replicate_zero, List.push_toArray, List.append_toArray, List.nil_append, List.cons_append]
  gi_wp2
  have hbx : Boxed (w.alloc (.cells #[.slice none 0 0] 60)) w.heap.size 60 (.slice none 0 0) := Boxed.new w 60 _
  have hR0 : Below w.heap.size w (w.alloc (.cells #[.slice none 0 0] 60)) := (Below.refl _ w).alloc (Nat.le_refl _) _
  have hm0 := (hR0.cell (p := ⟨Bm, 0, none⟩) hB).trans hm
  have hM0 : ∀ W, Ext (w.alloc (.cells #[.slice none 0 0] 60)) W → MPO encI OkI W o m := fun W hW => hM W (Ext.trans (Ext.alloc (Ext.refl w) _) hW)
  obtain ⟨i0, hi, hz0, hz1, hz2⟩ := info_parts (show (Tryz.prog.info? 3).map (fun i => (i.zero, i.size, i.bytes)) = some (some (.int .i64 0), 1, 8) by kernel_rfl)
  generalize hW0 : w.alloc (.cells #[.slice none 0 0] 60) = W0 at *
  have hsz : W0.heap.size = w.heap.size + 1 := by rw [← hW0]; simp
  refine wpIn_rangeFunc_ownH rfl (by omega) (gf := 80) (lb := #[.pointer (some ⟨Bm, 0, none⟩)]) rfl (wide_fn 80) (enters_of Tryz.func80 (by kernel_rfl) rfl)
    (keysI_stops (n - 1) (by omega) Bm o m W0 (by omega) hm0 hM0) walksK_t walksK_b (Below.refl _ _) (fun _ => rfl)
    (fun pre W => ∃ v, Boxed W w.heap.size 60 v ∧ W.ownsRow w.heap.size 3 1 v pre.length (pre.flatMap celI) ∧ Below w.heap.size w W)
    (fun _ _ _ => False) ?hI (fun _ _ _ _ _ hs _ _ => hs) ⟨_, hbx, World.ownsRow_nil _ _ _ _, hR0⟩
    (fun x a' W => a' = { tmps := #[.slice none 0 0, .func (.func 80) #[] #[.pointer (some ⟨Bm, 0, none⟩)], .pointer (some ⟨w.heap.size, 0, none⟩), undef, .slice none 0 0, .int .i64 x, .func (.func 80) #[] #[.pointer (some ⟨Bm, 0, none⟩)], .int .i64 x, undef, undef, undef, undef, undef], defers := [] }) ?hAx ?assign ?body ?done ?stop
  case hI =>
    intro pre W W' row hs hg hr
    obtain ⟨v, h1, h2, h3⟩ := hs
    refine ⟨v, h1.kept hg (fun e => by have := (hr _ e.symm).1; omega), row_of_block h2 (fun k hk => hg.block k (h2.lt k hk).2 (fun e => ?_)), h3.trans ⟨hg.os, hg.tape, hg.output, hg.size, fun k hk => hg.block k (by have := h3.size; omega) (fun e => by have := (hr _ e.symm).1; omega)⟩⟩
    obtain ⟨cs, hc⟩ := row_block h2 hk
    obtain ⟨-, ob, h4, h5⟩ := hr k e.symm
    rw [hc] at h4
    cases h4
    cases h5
  case hAx => 
    rintro x a' _ W W' row rfl hg hr
    rfl
  case assign => 
    rintro l pre x W K ⟨v, h1, h2, h3⟩ hK
    gi_wp2
    exact hK _ _ ((KeepsOthers.refl W).from _) (KeepsWalks.refl W) ⟨v, h1, h2, h3⟩ rfl
  case body =>
    rintro l pre x a' W hl0 ⟨r, hr⟩ ⟨v, h1, h2, h3⟩ rfl hN
    obtain ⟨vb, vcp, rfl⟩ := (SR.of_row (cs := celI) (fun _ => rfl) h2 (by omega)).form
    have hc := h1.cell
    have hfz := h1.frozen
    skip
    gi_wp2_with (gi_at_builtin; refine wpListIn_append_own _ rfl _ _ 60 rfl w.heap.size 3 i0 _ 1 8 Tryz.underlying60 hi hz0 hz1 hz2 rfl (by decide) _ pre.length _ rfl (row_ext h2 (Ext.alloc (Ext.refl W) _)) ⟨W.heap.size, 0, none⟩ 1 1 (celI x) rfl rfl (fun j u hj => by rw [addr_add, cell_of_row _ _ _ _ _ _ (heap_alloc_new W _)]; simpa [celI] using hj) (by simp [celI, Value.oneCell']) (by unfold maxLen; omega) (by omega) (by have := h3.size; simp; omega) ?_; intro v' w1 hown' hgrow _; obtain ⟨g', cap', rfl⟩ := ownsRow_succ hown'; obtain ⟨hv1, hv2, hr2, hk2, hb2⟩ := h1.appended (by decide) h2 h3.size (Nat.le_refl _) hown' hgrow; have hc1 := hv1.cell; have hf1 := hv1.frozen)
    refine ⟨hk2.from _, hk2.walks, _, hv2, ?_, h3.trans hb2⟩
    rw [List.flatMap_append, List.length_append]
    simpa using hr2
  case done =>
    rintro D ys W hD hys ⟨v, h1, h2, h3⟩ hK
    have hc := h1.cell
    obtain ⟨vb, vcp, rfl⟩ := (SR.of_row (cs := celI) (fun _ => rfl) h2 (by have := hys.length_eq; simp at this; omega)).form
    gi_wp2
    refine ⟨by simp, .inl ⟨_, _, rfl, run_takeDeferred hK, ?_⟩⟩
    refine ⟨_, results_tmp rfl _ _ _, _, ys, rfl, hys, row_of_block h2 (fun k hk => World.putObj_heap_other (fun e => ?_)), h3.trans (belowK_b (w := w) (Nat.le_refl _) W D _ _ (by omega) hK rfl rfl)⟩
    obtain ⟨cs, hcc⟩ := row_block h2 hk
    rw [e, hK] at hcc
    cases hcc
  case stop =>
    rintro D c pre W _ _ h _
    exact h.elim
theorem collectI (Bm : Nat) (o : Option Nat) (m : List (Int × Value)) (w : World) (hB : Bm < w.heap.size) (hm : w.cell? ⟨Bm, 0, none⟩ = some (.map o)) (hM : ∀ W, Ext w W → MPO encI OkI W o m) (hl : m.length ≤ 1000000) :
    Calls Tryz.prog 78 #[.func (.func 80) #[] #[.pointer (some ⟨Bm, 0, none⟩)]] w fun e w' => ∃ (v : Value) (ks : List Int), e = .returned v ∧ ks.Perm (m.map (·.1)) ∧ w'.ownsRow w.heap.size 3 1 v ks.length (ks.flatMap celI) ∧ Ext w w' := by
  have hA := callsIn_wide.1 (appI_in 2 (Nat.le_refl _) Bm o m w hB hm hM hl)
  go_enter Tryz.func78, Tryz.ntmps78
  go_wp2_with (go_at_call 90; (with_reducible refine hA.mono ?_); rintro e w2 ⟨v, ks, rfl, hp, hr, hx⟩)
  go_ret
  exact ⟨v, ks, rfl, hp, hr, hx⟩
end Go.Proofs.YtnplnfkmcfalhaaGreatDoor
