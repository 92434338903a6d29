/-
  The reference's plan: what it holds; duties. Conditions: it lies in memory.
-/
import Derived.Test.YtlekdhhgjhakgaaJnE
namespace Go.Proofs.Ytlekdhhgjhakgaa
set_option linter.unusedVariables false
set_option linter.unusedSimpArgs false
open Go.RowKit
/-- Rows of bools: n rows of m bools. -/
def TB (w : World) (v : Value) (n m : Nat) (B : Nat → Nat → Bool) : Prop :=
  ∃ A c, v = .slice A n c ∧ n ≤ c ∧ (n = 0 ∨ ∃ g, A = some ⟨g, 0, none⟩ ∧ ∀ o, o < n → ∃ r rc, w.cell? ⟨g, o, none⟩ = some (.slice (some ⟨r, 0, none⟩) m rc) ∧ m ≤ rc ∧ ∀ k, k < m → w.cell? ⟨r, k, none⟩ = some (.bool (B o k)))
theorem TB.ext {w w' : World} {v : Value} {n m : Nat} {B : Nat → Nat → Bool} (h : TB w v n m B) (x : Ext w w') : TB w' v n m B := by
  obtain ⟨A, c, h1, h2, h3⟩ := h
  refine ⟨A, c, h1, h2, h3.imp id fun ⟨g, h4, h5⟩ => ⟨g, h4, fun o ho => ?_⟩⟩
  obtain ⟨r, rc, h6, h7, h8⟩ := h5 o ho
  exact ⟨r, rc, (x.cells.1 _ _ (World.block_lt_of_cell? w _ h6)).trans h6, h7, fun k hk => (x.cells.1 _ _ (World.block_lt_of_cell? w _ (h8 k hk))).trans (h8 k hk)⟩
theorem TB.at {w : World} {v : Value} {n m : Nat} {B : Nat → Nat → Bool} (h : TB w v n m B) {o : Nat} (ho : o < n) :
    ∃ g c r rc, v = .slice (some ⟨g, 0, none⟩) n c ∧ n ≤ c ∧ w.cell? ⟨g, o, none⟩ = some (.slice (some ⟨r, 0, none⟩) m rc) ∧ m ≤ rc ∧ ∀ k, k < m → w.cell? ⟨r, k, none⟩ = some (.bool (B o k)) := by
  obtain ⟨A, c, rfl, h2, h3⟩ := h
  obtain ⟨g, rfl, h5⟩ := h3.resolve_left (by omega)
  obtain ⟨r, rc, h6, h7, h8⟩ := h5 o ho
  exact ⟨g, c, r, rc, rfl, h2, h6, h7, h8⟩
theorem TB.congr {w : World} {v : Value} {n m : Nat} {B B' : Nat → Nat → Bool} (h : TB w v n m B) (e : ∀ o, o < n → ∀ k, k < m → B o k = B' o k) : TB w v n m B' := by
  obtain ⟨A, c, h1, h2, h3⟩ := h
  refine ⟨A, c, h1, h2, h3.imp id fun ⟨g, h4, h5⟩ => ⟨g, h4, fun o ho => ?_⟩⟩
  obtain ⟨r, rc, h6, h7, h8⟩ := h5 o ho
  exact ⟨r, rc, h6, h7, fun k hk => by rw [← e o ho k hk]; exact h8 k hk⟩
/-- Where a plan lies. -/
structure PC where
  w0 : World
  p : Nat
  mv : Value
  n : Nat
  m : Nat
  L : Nat
  f : Nat
  B : Nat → Nat → Bool
  dg : Nat
  dc : Nat
  dr : Nat → Nat
  rc : Nat → Nat
structure PC.ok (C : PC) : Prop where
  may : TB C.w0 C.mv C.n C.m C.B
  dr : ∀ o, o < C.n → C.w0.heap.size ≤ C.dr o
  inj : ∀ o q, o < C.n → q < C.n → C.dr o = C.dr q → o = q
  m : C.m ≤ 1000
  n : C.n ≤ 1000
  L : C.L ≤ 1000
  f : C.f ≤ C.n
  ndc : C.n ≤ C.dc
  nrc : ∀ o, o < C.n → C.m ≤ C.rc o
/-- What a plan holds: D is who does. -/
structure PS (C : PC) (W : World) (D : Nat → Nat → Bool) : Prop where
  low : Ext C.w0 W
  pb : W.heap[C.p]? = some (.cells #[C.mv, .slice (some ⟨C.dg, 0, none⟩) C.n C.dc, .int .i64 C.L] 111)
  dg : ∃ cs, W.heap[C.dg]? = some (.cells cs 87) ∧ ∀ o, o < C.n → cs[o]? = some (.slice (some ⟨C.dr o, 0, none⟩) C.m (C.rc o))
  row : ∀ o, o < C.n → ∃ cs, W.heap[C.dr o]? = some (.cells cs 4) ∧ ∀ k, k < C.m → cs[k]? = some (.bool (D o k))
theorem PS.ext {C : PC} {W W' : World} {D : Nat → Nat → Bool} (h : PS C W D) (x : Ext W W') : PS C W' D := by
  have k : ∀ b c t, W.heap[b]? = some (Obj.cells c t) → W'.heap[b]? = some (Obj.cells c t) := fun b c t hk => (x.block _ (Rg.lt_of_heap hk)).trans hk
  refine ⟨h.low.trans x, k _ _ _ h.pb, ?_, fun o ho => ?_⟩
  · obtain ⟨cs, h1, h2⟩ := h.dg
    exact ⟨cs, k _ _ _ h1, h2⟩
  · obtain ⟨cs, h1, h2⟩ := h.row o ho
    exact ⟨cs, k _ _ _ h1, h2⟩
theorem PS.c {C : PC} {W : World} {D : Nat → Nat → Bool} (h : PS C W D) : W.cell? ⟨C.p, 0, none⟩ = some C.mv ∧ W.cell? ⟨C.p, 1, none⟩ = some (.slice (some ⟨C.dg, 0, none⟩) C.n C.dc) ∧ W.cell? ⟨C.p, 2, none⟩ = some (.int .i64 C.L) :=
  ⟨cell_of_row W _ 0 _ _ _ h.pb, cell_of_row W _ 1 _ _ _ h.pb, cell_of_row W _ 2 _ _ _ h.pb⟩
theorem PS.d {C : PC} {W : World} {D : Nat → Nat → Bool} (h : PS C W D) {o : Nat} (ho : o < C.n) : W.cell? ⟨C.dg, o, none⟩ = some (.slice (some ⟨C.dr o, 0, none⟩) C.m (C.rc o)) := by
  obtain ⟨cs, h1, h2⟩ := h.dg
  rw [cell_of_row W _ o _ _ _ h1, h2 o ho]
theorem PS.r {C : PC} {W : World} {D : Nat → Nat → Bool} (h : PS C W D) {o k : Nat} (ho : o < C.n) (hk : k < C.m) : W.cell? ⟨C.dr o, k, none⟩ = some (.bool (D o k)) ∧ W.frozen? ⟨C.dr o, k, none⟩ = false := by
  obtain ⟨cs, h1, h2⟩ := h.row o ho
  exact ⟨by rw [cell_of_row W _ k _ _ _ h1, h2 k hk], tab_frozen h1⟩
/-- A row is turned. -/
theorem PS.put {C : PC} (hC : C.ok) {W : World} {D : Nat → Nat → Bool} (h : PS C W D) {o : Nat} (ho : o < C.n) (k : Nat) (c : Bool) : PS C (W.setCell ⟨C.dr o, k, none⟩ (.bool c)) (putD D o k c) := by
  obtain ⟨cs, h1, h2⟩ := h.row o ho
  have kp : ∀ b c' t, t ≠ 4 → W.heap[b]? = some (Obj.cells c' t) → (W.setCell ⟨C.dr o, k, none⟩ (.bool c)).heap[b]? = some (Obj.cells c' t) := fun b c' t ht hk => (heap_setCell_other _ (cells_ne hk h1 ht)).trans hk
  refine ⟨Ext.setCell h.low (hC.dr o ho) _, kp _ _ _ (by decide) h.pb, ?_, fun q hq => ?_⟩
  · obtain ⟨ds, h3, h4⟩ := h.dg
    exact ⟨ds, kp _ _ _ (by decide) h3, h4⟩
  · by_cases e : q = o
    · subst e
      refine ⟨_, heap_setCell_row _ h1, fun j hj => ?_⟩
      have hjs := (Array.getElem?_eq_some_iff.1 (h2 j hj)).1
      rw [Array.getElem?_setIfInBounds]
      unfold putD
      by_cases e2 : k = j
      · subst e2
        rw [if_pos rfl, if_pos hjs, if_pos ⟨rfl, rfl⟩]
      · rw [if_neg e2, if_neg (fun h => e2 h.2.symm)]
        exact h2 j hj
    · obtain ⟨ds, h3, h4⟩ := h.row q hq
      refine ⟨ds, (heap_setCell_other _ fun e2 => e (hC.inj q o hq ho e2)).trans h3, fun j hj => ?_⟩
      rw [putD_row e]
      exact h4 j hj
/-- A plan, and what has been seen. -/
structure PT (C : PC) (W : World) (sb : Nat) (D : Nat → Nat → Bool) (T : Nat → Bool) : Prop where
  ps : PS C W D
  seen : W.heap[sb]? = some (.cells (tabV (fun k => .bool (T k)) C.m) 4)
  ge : C.w0.heap.size ≤ sb
  ne : ∀ o, o < C.n → sb ≠ C.dr o
theorem PT.ext {C : PC} {W W' : World} {sb : Nat} {D : Nat → Nat → Bool} {T : Nat → Bool} (h : PT C W sb D T) (x : Ext W W') : PT C W' sb D T :=
  ⟨h.ps.ext x, (x.block _ (Rg.lt_of_heap h.seen)).trans h.seen, h.ge, h.ne⟩
theorem PT.look {C : PC} {W : World} {sb : Nat} {D : Nat → Nat → Bool} {T : Nat → Bool} (h : PT C W sb D T) (k : Nat) : PT C (W.setCell ⟨sb, k, none⟩ (.bool true)) sb D (Proofs.Ytlekdhhgjhakgaa.seen T k) := by
  have kp : ∀ b c t, t ≠ 4 → W.heap[b]? = some (Obj.cells c t) → (W.setCell ⟨sb, k, none⟩ (.bool true)).heap[b]? = some (Obj.cells c t) := fun b c t ht hk => (heap_setCell_other _ (cells_ne hk h.seen ht)).trans hk
  refine ⟨⟨Ext.setCell h.ps.low h.ge _, kp _ _ _ (by decide) h.ps.pb, ?_, fun o ho => ?_⟩, ?_, h.ge, h.ne⟩
  · obtain ⟨ds, h3, h4⟩ := h.ps.dg
    exact ⟨ds, kp _ _ _ (by decide) h3, h4⟩
  · obtain ⟨ds, h3, h4⟩ := h.ps.row o ho
    exact ⟨ds, (heap_setCell_other _ fun e => h.ne o ho e.symm).trans h3, h4⟩
  · rw [tab_put h.seen]
    congr 2
    refine tabV_congr fun j _ => ?_
    unfold Proofs.Ytlekdhhgjhakgaa.seen
    split <;> rfl
theorem PT.put {C : PC} (hC : C.ok) {W : World} {sb : Nat} {D : Nat → Nat → Bool} {T : Nat → Bool} (h : PT C W sb D T) {o : Nat} (ho : o < C.n) (k : Nat) (c : Bool) : PT C (W.setCell ⟨C.dr o, k, none⟩ (.bool c)) sb (putD D o k c) T :=
  ⟨h.ps.put hC ho k c, (heap_setCell_other _ (h.ne o ho)).trans h.seen, h.ge, h.ne⟩
set_option maxRecDepth 100000 in
set_option maxHeartbeats 8000000 in
theorem duties_any62 (C : PC) (hC : C.ok) (D : Nat → Nat → Bool) (W : World) (h : PS C W D) (k : Nat) (hk : k < C.m) :
    Calls Try.prog 62 #[.pointer (some ⟨C.p, 0, none⟩), .int .i64 k] W fun e W' => e = .returned (.int .i64 (cnt D C.n k : Nat)) ∧ Ext W W' := by
  have hn := hC.n; have hm := hC.m
  have H := Lib.hid h
  have HRC := Lib.hid hC
  clear h hC
  go_enter Try.func62, Try.ntmps62
  go_upto_region 3 with (fail)
  go_loopw [5, 6] (fun nv iv wr => ∃ i : Nat, iv = .int .i64 i ∧ i ≤ C.n ∧ nv = .int .i64 (cnt D i k : Nat) ∧ cnt D i k ≤ i ∧ Hid (Ext W wr)) (fun _ iv _ => C.n - (iof iv).toNat)
  case atStart => exact ⟨0, rfl, by omega, rfl, Nat.le_refl _, Lib.hid (Ext.refl _)⟩
  case round =>
    obtain ⟨i, rfl, hi, rfl, hci, HX⟩ := hrel
    have HP := Lib.hid (H.out.ext HX.out)
    obtain ⟨-, c1, -⟩ := HP.out.c
    by_cases hin : i < C.n
    · have d1 := HP.out.d hin
      obtain ⟨r1, -⟩ := HP.out.r hin hk
      have HSC : Hid (cnt D (i + 1) k = cnt D i k + (D i k).toNat) := Lib.hid rfl
      generalize cnt D i k = q at *
      cases hD : D i k with
      | true =>
        rw [hD] at r1 HSC
        go_wp2_with (fail)
        exact ⟨⟨i + 1, by simp, by omega, by rw [HSC.out]; simp, by rw [HSC.out]; simp; omega, HX⟩, by simp [iof]; omega⟩
      | false =>
        rw [hD] at r1 HSC
        go_wp2_with (fail)
        exact ⟨⟨i + 1, by simp, by omega, by rw [HSC.out]; simp, by rw [HSC.out]; simp; omega, HX⟩, by simp [iof]; omega⟩
    · obtain rfl : i = C.n := by omega
      go_wp2_with (fail)
      go_ret
      exact ⟨rfl, HX.out⟩
end Go.Proofs.Ytlekdhhgjhakgaa
