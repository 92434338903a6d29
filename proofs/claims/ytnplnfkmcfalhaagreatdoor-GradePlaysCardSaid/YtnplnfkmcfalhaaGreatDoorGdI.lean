/-
  The books of the examples are made, and the examples hold. Nothing is asked.
-/
import Derived.Test.YtnplnfkmcfalhaaGreatDoorGdH
namespace Go.Proofs.YtnplnfkmcfalhaaGreatDoor
set_option linter.unusedVariables false
set_option linter.unusedSimpArgs false
open Go.RowKit

theorem sr_block {α : Type} {cs : α → List Value} {sz : Nat} (hl : ∀ x, (cs x).length = sz) {W : World} {b c E : Nat} {xs : List α} (h : W.heap[b]? = some (.cells (xs.flatMap cs).toArray E)) (hn : xs.length ≤ 1000000) : SR cs sz W (.slice (some ⟨b, 0, none⟩) xs.length c) xs :=
  ⟨_, c, rfl, hn, .inr ⟨b, rfl, fun k hk j u hu => by
    have := flat_get xs (fun x _ => hl x) k hk j u hu
    rw [cell_of_row W b _ _ _ _ h]
    simpa using this⟩⟩
theorem heap_at (w : World) (o : Obj) (n : Nat) (h : n = w.heap.size) : (w.alloc o).heap[n]? = some o := by rw [h]; exact heap_alloc_new w o
theorem ten_one (a b : Value) (ha : a.oneCell' = true) (hb : b.oneCell' = true) : ∀ v ∈ (tenC a b).toList, v.oneCell' = true := by
  unfold tenC
  simp [Value.oneCell'] at *
  exact ⟨ha, hb⟩
theorem keep_heap {w w' : World} {b : Nat} {o : Obj} (e : Ext w w') (h : w.heap[b]? = some o) : w'.heap[b]? = some o := (e.block _ (Array.getElem?_eq_some_iff.1 h).1).trans h

set_option maxRecDepth 100000 in
set_option maxHeartbeats 1000000 in
theorem example_any (w : World) : Calls Tryz.prog 24 #[] w fun e w' => ∃ p F, e = .returned (.pointer (some ⟨p, 0, none⟩)) ∧ BR w' p exB F ∧ (∀ k ∈ F, w.heap.size ≤ k) ∧ Ext w w' := by
  go_enter Tryz.func24, Tryz.ntmps24
  go_upto_region 2 with (refine wpList_store_row (hgd := rfl) 55 (.tmp 1) (.tmp 6) rfl (w.heap.size + 1 + 1) (by rfl) (tenC (.slice (some ⟨w.heap.size, 0, none⟩) 1 1) (.slice (some ⟨w.heap.size + 1, 0, none⟩) 1 1)) (by rfl) (tenC (.slice none 0 0) (.slice none 0 0)) 55 (heap_at _ _ _ (by simp)) (by rfl) (by kernel_rfl) (ten_one _ _ rfl rfl) ?_)
  generalize hW0 : ((w.alloc (.cells #[.int .i64 1, .int .i64 0] 71)).alloc (.cells #[.string ⟨#[113, 117, 97, 108, 105, 116, 121]⟩, .int .i64 1, .int .i64 0, .int .i64 10, .bool false] 73)) = W0
  have hx0 : Ext w W0 := by rw [← hW0]; exact Ext.alloc (Ext.alloc (Ext.refl _) _) _
  have h1 : W0.heap[w.heap.size]? = some (.cells #[.int .i64 1, .int .i64 0] 71) := by
    rw [← hW0]; exact keep_heap (Ext.alloc (Ext.refl _) _) (heap_alloc_new w _)
  have h2 : W0.heap[w.heap.size + 1]? = some (.cells #[.string ⟨#[113, 117, 97, 108, 105, 116, 121]⟩, .int .i64 1, .int .i64 0, .int .i64 10, .bool false] 73) := by
    rw [← hW0]
    exact heap_at _ _ _ (World.size_alloc _ _).symm
  have hs0 : W0.heap.size = w.heap.size + 1 + 1 := by rw [← hW0, World.size_alloc, World.size_alloc]
  clear hW0
  simp only [Act.put]
  generalize hW2 : (W0.alloc (.cells #[.string ⟨#[]⟩, .slice none 0 0, .slice none 0 0, .slice none 0 0, .int .i64 0, .int .i64 0, .string ⟨#[]⟩, .int .i64 0, .int .i64 0, .string ⟨#[]⟩, .slice none 0 0, .slice none 0 0, .int .i64 0, .slice none 0 0, .int .i64 0, .int .i64 0, .int .i64 0, .int .i64 0, .int .i64 0, .int .i64 0] 55)).setRow (w.heap.size + 1 + 1) (tenC (.slice (some ⟨w.heap.size, 0, none⟩) 1 1) (.slice (some ⟨w.heap.size + 1, 0, none⟩) 1 1)) = W2
  have hx2 : Ext W0 W2 := by rw [← hW2]; exact below_setRow (Ext.alloc (Ext.refl _) _) (by omega) _
  have hT : W2.heap[w.heap.size + 1 + 1]? = some (.cells (tenC (.slice (some ⟨w.heap.size, 0, none⟩) 1 1) (.slice (some ⟨w.heap.size + 1, 0, none⟩) 1 1)) 55) := by
    rw [← hW2]
    exact setRow_heap _ _ _ _ 55 _ (heap_at _ _ _ hs0.symm)
  clear hW2
  have g1 := keep_heap hx2 h1
  have g2 := keep_heap hx2 h2
  have hxw := hx0.trans hx2
  have HT := Lib.hid hT
  clear hT hx0 hx2 h1 h2 hs0
  have hN := New_any [⟨1, 0⟩] [qCr] [⟨8, 5⟩, ⟨9, 5⟩] (.slice (some ⟨w.heap.size, 0, none⟩) 1 1) (.slice (some ⟨w.heap.size + 1, 0, none⟩) 1 1) (.slice (some ⟨W2.heap.size, 0, none⟩) 2 2) (W2.alloc (.cells #[.int .i64 8, .int .i64 5, .int .i64 9, .int .i64 5] 57))
    (sr_block (cs := Lt.cs) (sz := 2) (xs := [(⟨1, 0⟩ : Lt)]) (E := 71) (fun _ => rfl) (keep_heap (Ext.alloc (Ext.refl _) _) g1) (by decide)) (sr_block (cs := Cr.cs) (sz := 5) (xs := [qCr]) (E := 73) (fun _ => rfl) (keep_heap (Ext.alloc (Ext.refl _) _) g2) (by decide)) (sr_block (cs := Dy.cs) (sz := 2) (xs := [(⟨8, 5⟩ : Dy), ⟨9, 5⟩]) (E := 57) (fun _ => rfl) (heap_alloc_new _ _) (by decide))
    (by intro l hl; rw [List.mem_singleton] at hl; subst hl; exact okI_small (by decide)) (by intro c hc; rw [List.mem_singleton] at hc; subst hc; exact ⟨quaB_ok, okI_small (by decide), okI_small (by decide), okI_small (by decide)⟩)
    (by intro d hd; simp only [List.mem_cons, List.not_mem_nil, or_false] at hd; rcases hd with rfl | rfl <;> exact ⟨okI_small (by decide), okI_small (by decide)⟩) (by decide)
  have HN := Lib.hid hN
  clear hN
  go_wp2_with (first
    | (refine wpList_load_row (hgd := rfl) 55 (.tmp 1) rfl (w.heap.size + 1 + 1) (by rfl) 55 _ _ _ HT.out Tryz.underlying55 rfl (by kernel_rfl) ?_)
    | (go_at_call 15; (with_reducible refine HN.out.mono ?_); rintro e w9 ⟨p, F, rfl, hb, hF, hx9⟩))
  go_ret
  exact ⟨p, F, rfl, hb, fun k hk => Nat.le_trans hxw.size (Nat.le_trans (by simp) (hF k hk)), hxw.trans (Ext.trans (Ext.alloc (Ext.refl _) _) hx9)⟩
end Go.Proofs.YtnplnfkmcfalhaaGreatDoor
