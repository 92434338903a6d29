/-
  slices.Backward over items, and the table of items. Condition: the slice holds the items.
-/
import Derived.Test.YthdhlocoiipbaaaFl
import Derived.RangeFuncBox
import Derived.RangeFuncLeaves
import Derived.RangeFuncNested
import Derived.OwnWalkIn
import Derived.TacticsInMore
import Derived.LoopNIn
import Derived.LoopIn
import Derived.Maps.OwnIn
namespace Go.Proofs.Ythdhlocoiipbaaa
set_option linter.unusedVariables false
set_option linter.unusedSimpArgs false
open Go.RowKit Go.Shelf

attribute [local go_sem] Oper.semAt_some

/-- The int in a slot. -/
def iof : Value → Int
  | .int _ n => n
  | _ => 0
@[simp] theorem iof_int (k : IntKind) (n : Int) : iof (.int k n) = n := rfl

theorem back_step {xs : List It} {pre : List (Fin xs.length)} {k : Nat} {hk : k < xs.length} (h : pre.map (fun i => xs[i]) = (xs.drop (k + 1 : Int).toNat).reverse) : (pre ++ [(⟨k, hk⟩ : Fin xs.length)]).map (fun i => xs[i]) = (xs.drop ((k : Int) - 1 + 1).toNat).reverse := by
  rw [show ((k : Int) - 1 + 1).toNat = k by omega, List.drop_eq_getElem_cons hk, List.map_append, h, List.reverse_cons, show (k + 1 : Int).toNat = k + 1 by omega]
  rfl
theorem back_part {xs : List It} {pre : List (Fin xs.length)} {k : Nat} {hk : k < xs.length} (h : pre.map (fun i => xs[i]) = (xs.drop (k + 1 : Int).toNat).reverse) : (pre ++ [(⟨k, hk⟩ : Fin xs.length)]).map (fun i => xs[i]) <+: xs.reverse := by
  rw [back_step h]
  have h1 := List.take_append_drop ((k : Int) - 1 + 1).toNat xs
  refine ⟨(xs.take ((k : Int) - 1 + 1).toNat).reverse, ?_⟩
  rw [← List.reverse_append, h1]

theorem wide_fn (f : FuncId) : Fence.wide.fn f := trivial
@[local simp, local go_sem] theorem wide_fn' (f : FuncId) : Fence.wide.fn f = True := rfl
@[local simp, local go_sem] theorem wide_depth : Fence.wide.depth = none := rfl

/-- Blocks of cells below n₀ stay. -/
structure KC (n₀ : Nat) (W W' : World) : Prop where
  size : W.heap.size ≤ W'.heap.size
  same : ∀ (k : Nat) (o : Obj), k < n₀ → W.heap[k]? = some o → o.isCells = true → W'.heap[k]? = some o
theorem KC.refl (n₀ : Nat) (W : World) : KC n₀ W W := ⟨Nat.le_refl _, fun _ _ _ h _ => h⟩
theorem KC.trans {n₀ : Nat} {A B C : World} (h : KC n₀ A B) (k : KC n₀ B C) : KC n₀ A C := ⟨Nat.le_trans h.size k.size, fun i o hi h1 h2 => k.same i o hi (h.same i o hi h1 h2) h2⟩
theorem KC.cell {n₀ : Nat} {A B : World} (h : KC n₀ A B) {b o : Nat} {v : Value} (hb : b < n₀) (hc : A.cell? ⟨b, o, none⟩ = some v) : B.cell? ⟨b, o, none⟩ = some v := by
  obtain ⟨ob, h1, h2⟩ := cells_of_cell hc
  have h3 := h.same b ob hb h1 h2
  unfold World.cell? at hc ⊢
  simp only [h1, h3] at hc ⊢
  exact hc
theorem KC.put {n₀ : Nat} {W : World} {l : Nat} {o : Obj} (o' : Obj) (h : W.heap[l]? = some o) (ho : o.isCells = false) : KC n₀ W (W.putObj l o') := by
  refine ⟨by simp, fun k ob _ h1 h2 => ?_⟩
  by_cases e : k = l
  · subst e; rw [h] at h1; cases h1; rw [ho] at h2; cases h2
  · rw [World.putObj_heap_other e]; exact h1
theorem KC.of_below {n₀ m : Nat} {A B : World} (h : Below m A B) (hm : n₀ ≤ m) : KC n₀ A B := ⟨h.size, fun k o hk h1 _ => (h.block k (by omega)).trans h1⟩
theorem KC.alloc {n₀ : Nat} (W : World) (o : Obj) : KC n₀ W (W.alloc o) := ⟨by simp, fun k o' _ h1 _ => (Below.heap_alloc W o k (Array.getElem?_eq_some_iff.1 h1).1).trans h1⟩
theorem KC.of_grown {n₀ b : Nat} {A B : World} (h : A.grownBy B (some b)) {es : Array MapEntry} {c : Nat} (hb : A.heap[b]? = some (.map es c)) : KC n₀ A B := by
  refine ⟨h.size, fun k o _ h1 h2 => (h.block k (Array.getElem?_eq_some_iff.1 h1).1 ?_).trans h1⟩
  intro e
  cases e
  rw [hb] at h1; cases h1
  cases h2
theorem SQ.kc {α : Type} {cs : α → List Value} {sz n₀ : Nat} {w w' : World} {v : Value} {xs : List α} (h : SQ cs sz w v xs) (hn : n₀ = w.heap.size) (e : KC n₀ w w') : SQ cs sz w' v xs := by
  obtain ⟨base, cap, h1, h2, h3⟩ := h
  exact ⟨base, cap, h1, h2, h3.imp id fun ⟨b, off, hb, hc⟩ => ⟨b, off, hb, fun k hk j u hu => e.cell (by rw [hn]; exact World.block_lt_of_cell? w _ (hc k hk j u hu)) (hc k hk j u hu)⟩⟩

set_option maxRecDepth 100000 in
/-- The iterator's rounds, from behind. -/
theorem back_in (n : Nat) (hn : 1 ≤ n) (l Bn n₀ : Nat) (v : Value) (xs : List It) (J Jx : List (Fin xs.length) → World → Prop)
    (hY : ∀ pre x W, J pre W → pre.length < xs.length → YieldAt Fence.wide (n - 1) Try.prog l #[.int .i64 (x.1 : Nat), xs[x].v] W fun e W' =>
      (e = .returned (.bool true) ∧ J (pre ++ [x]) W' ∧ KC n₀ W W') ∨ (e = .returned (.bool false) ∧ Jx (pre ++ [x]) W'))
    (W : World) (hBn : W.cell? ⟨Bn, 0, none⟩ = some v) (hlt : Bn < n₀) (hL : ∀ W', KC n₀ W W' → SQ It.cs 3 W' v xs) (h0 : J [] W) :
    CallsIn Fence.wide n Try.prog 49 #[.func (.yield l) #[] #[], .pointer (some ⟨Bn, 0, none⟩)] W fun e W' => (∃ v, e = .returned v) ∧
      ((∃ ys, ys.map (fun i => xs[i]) = xs.reverse ∧ J ys W') ∨ (∃ pre, pre.map (fun i => xs[i]) <+: xs.reverse ∧ Jx pre W')) := by
  refine callsIn_of_wp Try.func49 rfl (wide_fn 49) ?_ rfl
  simp only [Try.ntmps49, List.size_toArray, List.length_cons, List.length_nil, Nat.reduceAdd, Nat.reduceSub, Array.replicate_succ, Array.replicate_zero, List.push_toArray, List.append_toArray, List.nil_append, List.cons_append]
  obtain ⟨base, cap, rfl⟩ := (hL W (KC.refl _ _)).form
  have hle := (hL W (KC.refl _ _)).le
  gi_wp2
  gi_loopw [3] (fun p wr => ∃ (j : Int) (pre : List (Fin xs.length)), p = .int .i64 j ∧ -1 ≤ j ∧ j < xs.length ∧ pre.map (fun i => xs[i]) = (xs.drop (j + 1).toNat).reverse ∧ J pre wr ∧ KC n₀ W wr)
    (fun p wr => (iof p + 1).toNat)
  case atStart =>
    exact ⟨_, [], rfl, by omega, by omega, by simp, h0, KC.refl _ _⟩
  case round =>
    obtain ⟨j, pre, rfl, h1, h2, hpre, hJ, hB⟩ := hrel
    by_cases hj : 0 ≤ j
    · obtain ⟨k, rfl⟩ : ∃ k : Nat, j = k := ⟨j.toNat, by omega⟩
      have hk : k < xs.length := by omega
      have hpl : pre.length < xs.length := by
        have := congrArg List.length hpre
        simp at this
        omega
      obtain ⟨b, off, rfl, -, c0, c1, c2⟩ := it_at (hL wr hB) k hk
      have hbox := hB.cell hlt hBn
      obtain ⟨fn, tmps, assign, body, hy, hR⟩ := hY pre ⟨k, hk⟩ wr hJ hpl
      simp only [It.v, Fin.getElem_fin] at hy
      gi_wp2
      refine hR.mono ?_
      rintro e W3 (⟨rfl, hJ3, hk3⟩ | ⟨rfl, hJx3⟩)
      · gi_wp2
        go_roundw
        case rel => exact ⟨k - 1, pre ++ [(⟨k, hk⟩ : Fin xs.length)], rfl, by omega, by omega, back_step hpre, hJ3, hB.trans hk3⟩
        case measure => simp
      · gi_wp2
        refine bodyPost_ret (results_none rfl _ _ _) rfl ?_
        exact ⟨⟨_, rfl⟩, .inr ⟨pre ++ [(⟨k, hk⟩ : Fin xs.length)], back_part hpre, hJx3⟩⟩
    · obtain rfl : j = -1 := by omega
      gi_wp2
      go_end0
      exact ⟨⟨_, rfl⟩, .inl ⟨pre, by simpa using hpre, hJ⟩⟩

theorem wpListIn_store {F : Fence} {nF : Nat} {κ : Type} [DecidableEq κ] {enc : κ → Value} {good : κ → Prop} {P : Program} {w : World} {ops : Array Oper} {rest : List Oper} {o : Oper} {a : Act} {Q : Exit → Act → World → Prop}
    (hg : o.guard = none) (m x v : Operand) (t : TypeId) (hop : o.op = Op.mapUpdate t m x v) (k e : TypeId) (K : KE P k enc good) (ht : P.underlying t = some (.map k e))
    (b : Nat) (l : List (κ × Value)) (hm : a.eval m = .map (some b)) (h : MP enc good w b l) (key : κ) (hx : a.eval x = enc key) (hgd : good key) (val : Value) (hv : a.eval v = val)
    (hK : ∀ w', MP enc good w' b (putL l key val) → w.grownBy w' (some b) → wpListIn F nF P ops Q rest (a.put o.dst undef) w') : wpListIn F nF P ops Q (o :: rest) a w := by
  refine wpListIn_plain hg fun K' hK' => ?_
  obtain ⟨w', hrun, r1, r2⟩ := h.update K ht hgd val
  unfold Oper.wpIn
  refine ⟨by simp [Oper.about, hop], ?_⟩
  rw [Oper.semAt_plain F _ _ (by rw [hop]; intro c hc'; cases hc')]
  simp [execOp, hop, hm, hx, hv, hrun, Result.andThen]
  exact hK' _ _ (hK w' r1 r2)
theorem MP.row {enc : Int → Value} {good : Int → Prop} {w w' : World} {b : Nat} {l : List (Int × Value)} (h : MP enc good w b l) {B : Nat} {row : Option Nat} (hg : w.grownBy w' row) (hr : ∀ r, row = some r → B ≤ r ∧ ∃ o : Obj, w.heap[r]? = some o ∧ o.isCells = false) (hb : b < B) : MP enc good w' b l :=
  h.kept hg (fun e => by have := (hr b e.symm).1; omega)

/-- slices.Backward. -/
theorem backward_in (n : Nat) (base : Option Addr) (m c : Nat) (w : World) :
    CallsIn Fence.wide n Try.prog 40 #[.slice base m c] w fun e w' => e = .returned (.func (.func 49) #[] #[.pointer (some ⟨w.heap.size, 0, none⟩)]) ∧ w' = w.alloc (.cells #[.slice base m c] 23) := by
  refine callsIn_of_wp Try.func40 rfl (wide_fn 40) ?_ rfl
  simp only [Try.ntmps40, List.size_toArray, List.length_cons, List.length_nil, Nat.reduceAdd, Nat.reduceSub, Array.replicate_succ, Array.replicate_zero, List.push_toArray, List.append_toArray, List.nil_append, List.cons_append]
  gi_wp2
  go_ret
  exact ⟨rfl, rfl⟩
theorem back_stops (n : Nat) (hn : 1 ≤ n) (Bn n₀ : Nat) (v : Value) (xs : List It) (w : World) (hB : Bn < w.heap.size) (hlt : Bn < n₀) (hn₀ : n₀ ≤ w.heap.size) (hc : w.cell? ⟨Bn, 0, none⟩ = some v)
    (hL : ∀ W', KC n₀ w W' → SQ It.cs 3 W' v xs) :
    SeqStopsK Fence.wide n Try.prog 49 #[.pointer (some ⟨Bn, 0, none⟩)] (fun x : Fin xs.length => #[Value.int .i64 (x.1 : Nat), xs[x].v]) (KC n₀) (fun ys => ys.map (fun i => xs[i]) = xs.reverse) (fun pre => pre.map (fun i => xs[i]) <+: xs.reverse) xs.length w := fun l J Jx W hW _ _ hY h0 =>
  back_in n hn l Bn n₀ v xs J Jx hY W ((hW.cell (p := ⟨Bn, 0, none⟩) hB).trans hc) hlt (fun W' h => hL W' ((KC.of_below hW hn₀).trans h)) h0

/-- The table while it is made. -/
def tabP (xs : List It) (pre : List (Fin xs.length)) : List (Int × Value) := pre.foldl (fun m i => putL m xs[i].id xs[i].v) []
theorem tabP_done {xs : List It} {ys : List (Fin xs.length)} (h : ys.map (fun i => xs[i]) = xs.reverse) : tabP xs ys = tabl xs := by
  have h1 : tabP xs ys = (ys.map (fun i => xs[i])).foldl (fun m x => putL m x.id x.v) [] := by unfold tabP; rw [List.foldl_map]
  rw [h1, h, List.foldl_reverse]
  rfl
theorem tabP_snoc (xs : List It) (pre : List (Fin xs.length)) (i : Fin xs.length) : tabP xs (pre ++ [i]) = putL (tabP xs pre) xs[i].id xs[i].v := by
  unfold tabP; rw [List.foldl_append]; rfl

set_option maxRecDepth 100000 in
theorem table_in (n : Nat) (hn : 3 ≤ n) (v : Value) (xs : List It) (w : World) (h : RI w v xs) :
    CallsIn Fence.wide n Try.prog 26 #[v] w fun e w' => ∃ b, e = .returned (.map (some b)) ∧ MI w' b (tabl xs) ∧ Ext w w' ∧ w.heap.size ≤ b := by
  have hmm := @run_makeMap Try.prog
  obtain ⟨base, cap, rfl⟩ := h.1.form
  refine callsIn_of_wp_marks Try.func26 rfl (wide_fn 26) ?_ rfl
  simp only [Try.ntmps26, List.size_toArray, List.length_cons, List.length_nil, Nat.reduceAdd, Nat.reduceSub, Array.replicate_succ, Array.replicate_zero, List.push_toArray, List.append_toArray, List.nil_append, List.cons_append]
  gi_wp2_with (gi_at_call 40; refine (backward_in (n - 1) _ _ _ _).mono ?_; rintro e w' ⟨rfl, rfl⟩)
  have hR0 : Below w.heap.size w (((w.alloc (.map #[] 0)).alloc (.cells #[.map (some w.heap.size)] 55)).alloc (.cells #[.slice base xs.length cap] 23)) := (((Below.refl _ w).alloc (Nat.le_refl _) _).alloc (by simp) _).alloc (by simp; omega) _
  have hbx : Boxed ((w.alloc (.map #[] 0)).alloc (.cells #[.map (some w.heap.size)] 55)) (w.heap.size + 1) 55 (.map (some w.heap.size)) := by
    have := Boxed.new (w.alloc (.map #[] 0)) 55 (.map (some w.heap.size))
    rwa [World.size_alloc] at this
  have hby : Boxed (((w.alloc (.map #[] 0)).alloc (.cells #[.map (some w.heap.size)] 55)).alloc (.cells #[.slice base xs.length cap] 23)) (w.heap.size + 1 + 1) 23 (.slice base xs.length cap) := by
    have := Boxed.new ((w.alloc (.map #[] 0)).alloc (.cells #[.map (some w.heap.size)] 55)) 23 (.slice base xs.length cap)
    rwa [World.size_alloc, World.size_alloc] at this
  have hm0 : MI (((w.alloc (.map #[] 0)).alloc (.cells #[.map (some w.heap.size)] 55)).alloc (.cells #[.slice base xs.length cap] 23)) w.heap.size [] :=
    (((MP.made w).ext (Ext.alloc (Ext.refl _) _)).ext (Ext.alloc (Ext.refl _) _))
  generalize hW0 : ((w.alloc (.map #[] 0)).alloc (.cells #[.map (some w.heap.size)] 55)).alloc (.cells #[.slice base xs.length cap] 23) = W0 at *
  have hsz : W0.heap.size = w.heap.size + 3 := by rw [← hW0]; simp
  have hbx0 : Boxed W0 (w.heap.size + 1) 55 (.map (some w.heap.size)) := by rw [← hW0]; exact hbx.alloc _
  refine wpIn_rangeFunc_ownH rfl (by omega) (gf := 49) (lb := #[.pointer (some ⟨w.heap.size + 1 + 1, 0, none⟩)]) rfl (wide_fn 49) (enters_of Try.func49 (by kernel_rfl) rfl)
    (back_stops (n - 1) (by omega) (w.heap.size + 1 + 1) W0.heap.size _ xs W0 (by omega) (by omega) (Nat.le_refl _) hby.cell (fun W' h' => (h.1.ext hR0).kc rfl h')) (fun h k => KC.trans h k) (fun W l o o' _ h1 h2 _ => KC.put o' h1 h2) (Below.refl _ _) (fun _ => rfl)
    (fun pre W => Boxed W (w.heap.size + 1) 55 (.map (some w.heap.size)) ∧ MI W w.heap.size (tabP xs pre) ∧ Below w.heap.size w W)
    (fun _ _ _ => False) ?hI (fun _ _ _ _ _ hs _ _ => hs) ⟨hbx0, hm0, hR0⟩
    (fun x a' W => ∃ p u9 u10, a' = { tmps := #[.slice base xs.length cap, undef, .map none, .pointer (some ⟨w.heap.size + 1, 0, none⟩), undef, .pointer (some ⟨p, 0, none⟩), .map (some w.heap.size), .slice base xs.length cap, .func (.func 49) #[] #[.pointer (some ⟨w.heap.size + 1 + 1, 0, none⟩)], u9, u10, undef, undef, undef, undef, undef], defers := [] } ∧ W.heap[p]? = some (.cells #[.int .i64 xs[x].id, .int .i64 xs[x].label, xs[x].fv] 32) ∧ w.heap.size < p) ?hAx ?assign ?body ?done ?stop
  case hI =>
    intro pre W W' row hs hg hr
    obtain ⟨h1, h2, h3⟩ := hs
    refine ⟨h1.kept hg (fun e => by have := (hr _ e.symm).1; omega), h2.row hg hr (by omega), h3.trans ⟨hg.os, hg.tape, hg.output, hg.size, fun k hk => hg.block k (by have := h3.size; omega) (fun e => by have := (hr _ e.symm).1; omega)⟩⟩
  case hAx =>
    rintro x a' _ W W' row ⟨p, u9, u10, rfl, hp, hlt⟩ hg hr
    refine ⟨p, u9, u10, rfl, (hg.block p (Array.getElem?_eq_some_iff.1 hp).1 (fun e => ?_)).trans hp, hlt⟩
    obtain ⟨-, o, ho, ho'⟩ := hr p e.symm
    rw [hp] at ho; cases ho; cases ho'
  case assign =>
    intro l pre x W K hI hK
    obtain ⟨h1, h2, h3⟩ := hI
    obtain ⟨A, m, c, hfv⟩ : ∃ A m c, xs[x].fv = .slice A m c := by
      obtain ⟨A, c, hfv, -⟩ := (h.2 xs[x] (List.getElem_mem _)).2.2
      exact ⟨_, _, _, hfv⟩
    have hfv' : xs[x.1].fv = .slice A m c := hfv
    simp only [It.v, Fin.getElem_fin, hfv', hfv] at *
    gi_wp2
    refine hK _ _ ((KeepsOthers.alloc W _).from _) (KC.alloc W _) ⟨h1.alloc _, h2.ext (Ext.alloc (Ext.refl _) _), h3.alloc h3.size _⟩ ⟨_, _, _, rfl, ?_, h2.lt⟩
    exact World.alloc_heap_new W _
  case body =>
    rintro l pre x a' W hl ⟨r, hr⟩ ⟨h1, h2, h3⟩ ⟨p, u9, u10, rfl, hp, hlt⟩ hN
    have hc := h1.cell
    have hp0 := cell_of_row W p 0 _ _ _ hp
    have hp1 := cell_of_row W p 1 _ _ _ hp
    have hp2 := cell_of_row W p 2 _ _ _ hp
    gi_wp2_with (gi_at_mapUpdate; refine wpListIn_store rfl _ _ _ 55 rfl 3 32 keI Try.underlying55 w.heap.size _ rfl h2 xs[x].id rfl (h.2 xs[x] (List.getElem_mem _)).1 xs[x].v rfl ?_; intro w3 hm3 hg3)
    obtain ⟨es, ck, hbm, -⟩ := h2.2.2
    refine ⟨⟨hg3.size, fun k o hk h1' h2' => (hg3.block k (Array.getElem?_eq_some_iff.1 h1').1 (by simp; omega)).trans h1'⟩, KC.of_grown hg3 hbm, h1.kept hg3 (by simp), ?_, h3.trans ⟨hg3.os, hg3.tape, hg3.output, hg3.size, fun k hk => hg3.block k (by have := h3.size; omega) (by simp; omega)⟩⟩
    rw [tabP_snoc]
    exact hm3
  case done =>
    rintro D ys W hD hys ⟨h1, h2, h3⟩ hK
    have hc := h1.cell
    rw [tabP_done hys] at h2
    gi_wp2
    refine ⟨by simp, .inl ⟨_, _, rfl, run_takeDeferred hK, ?_⟩⟩
    exact ⟨_, results_tmp rfl _ _ _, _, rfl, h2.kept (grownBy_putObj' _ _ _) (by simp; omega), h3.trans (belowK_b (w := w) (Nat.le_refl _) W D _ _ (by omega) hK rfl rfl), Nat.le_refl _⟩
  case stop =>
    rintro D c pre W _ _ h _
    exact h.elim

/-- The table of items. -/
theorem table_any (v : Value) (xs : List It) (w : World) (h : RI w v xs) :
    Calls Try.prog 26 #[v] w fun e w' => ∃ b, e = .returned (.map (some b)) ∧ MI w' b (tabl xs) ∧ Ext w w' ∧ w.heap.size ≤ b :=
  callsIn_wide.1 (table_in 3 (Nat.le_refl _) v xs w h)

end Go.Proofs.Ythdhlocoiipbaaa
