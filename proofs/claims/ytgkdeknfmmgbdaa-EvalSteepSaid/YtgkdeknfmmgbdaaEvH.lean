/-
  The reference's Same, of two values that stand for one tree. Conditions: they do.
-/
import Derived.Test.YtgkdeknfmmgbdaaEvG
namespace Go.Proofs.Ytgkdeknfmmgbdaa
set_option linter.unusedVariables false
set_option linter.unusedSimpArgs false
open Go.RowKit

theorem neq26 (a b : Int) (w : World) : (binOp .neq 26 (.agg #[.int .i64 a, .int .i64 b]) (.agg #[.int .i64 a, .int .i64 b])).run Try.prog w = .ok (.bool false) w := by
  simp [go_sem]

theorem Ex.depth_get : ∀ (ts : List Ex) (k : Nat) (h : k < ts.length), ts[k].depth ≤ Ex.depthL ts
  | t :: ts, 0, _ => by rw [Ex.depthL]; exact Nat.le_max_left _ _
  | t :: ts, k + 1, h => by
    rw [Ex.depthL]
    exact Nat.le_trans (Ex.depth_get ts k (by simpa using h)) (Nat.le_max_right _ _)

set_option maxRecDepth 100000 in
set_option maxHeartbeats 2000000 in
theorem same_any (S T : Nat → Prop) : ∀ (d : Nat) (t : Ex) (_ : t.depth ≤ d) (w : World) (u v : Value) (_ : Rd S w t u) (_ : Rd T w t v),
    Calls Try.prog 20 #[u, v] w fun e w' => e = .returned (.bool true) ∧ Ext w w'
  | 0, .mk op n nm ts, hd, _, _, _, _, _ => by rw [Ex.depth] at hd; omega
  | d + 1, .mk op n nm ts, hd, w, u, v, hu, hv => by
    obtain ⟨n1, n2⟩ := n
    unfold Rd at hu hv
    obtain ⟨base, cap, rfl, -, hlen, hr⟩ := hu
    obtain ⟨base', cap', rfl, -, -, hr'⟩ := hv
    have HN := fun w => neq26 n1 n2 w
    have IH := Lib.hid (fun t ht w u v hu hv => same_any S T d t ht w u v hu hv)
    rw [Ex.depth] at hd
    have HR := Lib.hid hr
    have HR' := Lib.hid hr'
    clear hr hr'
    go_enter Try.func20, Try.ntmps20
    go_wp2_with (fail)
    have hxW : Ext w ((w.alloc (.cells #[.string op, .int .i64 n1, .int .i64 n2, .string nm, .slice base ts.length cap] 29)).alloc (.cells #[.string op, .int .i64 n1, .int .i64 n2, .string nm, .slice base' ts.length cap'] 29)) := (by with_reducible repeat (first | exact Ext.refl _ | assumption | apply Ext.drewN | apply Ext.drew | apply Ext.alloc | (refine Ext.setCell ?_ (by simp <;> omega) _) | (refine Ext.trans ?_ (by assumption))))
    have hw1 : ((w.alloc (.cells #[.string op, .int .i64 n1, .int .i64 n2, .string nm, .slice base ts.length cap] 29)).alloc (.cells #[.string op, .int .i64 n1, .int .i64 n2, .string nm, .slice base' ts.length cap'] 29)).heap[w.heap.size]? = some (.cells #[.string op, .int .i64 n1, .int .i64 n2, .string nm, .slice base ts.length cap] 29) := by
      rw [Below.heap_alloc _ _ _ (by simp)]; exact block_new rfl
    have hw2 : ((w.alloc (.cells #[.string op, .int .i64 n1, .int .i64 n2, .string nm, .slice base ts.length cap] 29)).alloc (.cells #[.string op, .int .i64 n1, .int .i64 n2, .string nm, .slice base' ts.length cap'] 29)).heap[w.heap.size + 1]? = some (.cells #[.string op, .int .i64 n1, .int .i64 n2, .string nm, .slice base' ts.length cap'] 29) := block_new (by simp)
    generalize ((w.alloc (.cells #[.string op, .int .i64 n1, .int .i64 n2, .string nm, .slice base ts.length cap] 29)).alloc (.cells #[.string op, .int .i64 n1, .int .i64 n2, .string nm, .slice base' ts.length cap'] 29)) = W at *
    have s1 : w.heap.size < W.heap.size := Rg.lt_of_heap hw1
    have s2 : w.heap.size + 1 < W.heap.size := Rg.lt_of_heap hw2
    have e4 : W.cell? ⟨w.heap.size, 4, none⟩ = some (.slice base ts.length cap) := by rw [cell_of_row W _ _ _ _ _ hw1]; rfl
    have e5 : W.cell? ⟨w.heap.size + 1, 4, none⟩ = some (.slice base' ts.length cap') := by rw [cell_of_row W _ _ _ _ _ hw2]; rfl
    clear hw1 hw2
    go_loopw [4, 5] (fun z i wr => ∃ k : Nat, k ≤ ts.length ∧ z = .bool false ∧ i = .int .i64 k ∧ Ext W wr) (fun _ i _ => ts.length - (intOf i).toNat)
    case atStart => exact ⟨0, Nat.zero_le _, rfl, rfl, Ext.refl _⟩
    case round =>
      obtain ⟨k, hk, rfl, rfl, hx⟩ := hrel
      have x4 := (hx.cells.1 _ _ s1).trans e4
      have x5 := (hx.cells.1 _ _ s2).trans e5
      have t1 : w.heap.size < wr.heap.size := Nat.lt_of_lt_of_le s1 hx.size
      have t2 : w.heap.size + 1 < wr.heap.size := Nat.lt_of_lt_of_le s2 hx.size
      rcases Nat.lt_or_ge k ts.length with hlt | hge
      · rcases HR.out with h | ⟨b, rfl, -, hl⟩
        · subst h; exact absurd hlt (Nat.not_lt_zero _)
        rcases HR'.out with h | ⟨b', rfl, -, hl'⟩
        · subst h; exact absurd hlt (Nat.not_lt_zero _)
        obtain ⟨c, hc, hra⟩ := hl.get k hlt
        obtain ⟨c', hc', hra'⟩ := hl'.get k hlt
        obtain ⟨oa, a1, a2, na, ba, la, ca, c0, c1, c2, c3, c4, ea⟩ := hra.shape
        obtain ⟨ob, b1, b2, nb, bb, lb, cb, d0, d1, d2, d3, d4, eb⟩ := hra'.shape
        rw [Nat.zero_add] at hc hc'
        have hbl : b < w.heap.size := World.block_lt_of_cell? w _ (hc 0 (by decide))
        have hbl' : b' < w.heap.size := World.block_lt_of_cell? w _ (hc' 0 (by decide))
        have hwr : Ext w wr := hxW.trans hx
        have s5 : b < wr.heap.size := Nat.lt_of_lt_of_le hbl hwr.size
        have s6 : b' < wr.heap.size := Nat.lt_of_lt_of_le hbl' hwr.size
        have j0 := (hwr.cells.1 b _ hbl).trans ((hc 0 (by decide)).trans (congrArg some c0))
        have j1 := (hwr.cells.1 b _ hbl).trans ((hc 1 (by decide)).trans (congrArg some c1))
        have j2 := (hwr.cells.1 b _ hbl).trans ((hc 2 (by decide)).trans (congrArg some c2))
        have j3 := (hwr.cells.1 b _ hbl).trans ((hc 3 (by decide)).trans (congrArg some c3))
        have j4 := (hwr.cells.1 b _ hbl).trans ((hc 4 (by decide)).trans (congrArg some c4))
        have l0 := (hwr.cells.1 b' _ hbl').trans ((hc' 0 (by decide)).trans (congrArg some d0))
        have l1 := (hwr.cells.1 b' _ hbl').trans ((hc' 1 (by decide)).trans (congrArg some d1))
        have l2 := (hwr.cells.1 b' _ hbl').trans ((hc' 2 (by decide)).trans (congrArg some d2))
        have l3 := (hwr.cells.1 b' _ hbl').trans ((hc' 3 (by decide)).trans (congrArg some d3))
        have l4 := (hwr.cells.1 b' _ hbl').trans ((hc' 4 (by decide)).trans (congrArg some d4))
        simp only [Nat.add_zero] at j0 l0
        have hdk : ts[k].depth ≤ d := by have := Ex.depth_get ts k hlt; omega
        have HI := Lib.hid (fun w' hw => IH.out ts[k] hdk w' _ _ (Rd.ext hw (ea ▸ hra)) (Rd.ext hw (eb ▸ hra')))
        clear hc hc' hra hra' hl hl' c0 c1 c2 c3 c4 d0 d1 d2 d3 d4 ea eb hdk
        go_wp2_with (fail)
        refine Rr.wp_region [(0, .y), (1, .y), (2, .y), (3, .y), (4, .y), (5, .y), (6, .y), (7, .y), (8, .y), (9, .y), (10, .y)] (fun _ => (.cells #[] 29, Rg.ptr)) (by kernel_rfl) (by kernel_rfl) ?_
        (refine Rr.wr_y (by simp only [List.getElem?_toArray, List.getElem?_cons_succ, List.getElem?_cons_zero]; rfl) (by rfl) ?_
         apply Exists.intro
         refine ⟨fun wz hw _ => ?_, ?_⟩
         · have hcz := hw.cells.1
           go_simp
           (with_reducible exact Rg.up_value)
         simp only [Act.put, List.setIfInBounds_toArray, List.set_cons_zero, List.set_cons_succ])
        (refine Rr.wr_y (by simp only [List.getElem?_toArray, List.getElem?_cons_succ, List.getElem?_cons_zero]; rfl) (by rfl) ?_
         apply Exists.intro
         refine ⟨fun wz hw _ => ?_, ?_⟩
         · have hcz := hw.cells.1
           go_simp
           (with_reducible exact Rg.up_value)
         simp only [Act.put, List.setIfInBounds_toArray, List.set_cons_zero, List.set_cons_succ])
        (refine Rr.wr_y (by simp only [List.getElem?_toArray, List.getElem?_cons_succ, List.getElem?_cons_zero]; rfl) (by rfl) ?_
         apply Exists.intro
         refine ⟨fun wz hw _ => ?_, ?_⟩
         · have hcz := hw.cells.1
           go_simp
           (with_reducible exact Rg.up_value)
         simp only [Act.put, List.setIfInBounds_toArray, List.set_cons_zero, List.set_cons_succ])
        (refine Rr.wr_y (by simp only [List.getElem?_toArray, List.getElem?_cons_succ, List.getElem?_cons_zero]; rfl) (by rfl) ?_
         apply Exists.intro
         refine ⟨fun wz hw _ => ?_, ?_⟩
         · have hcz := hw.cells.1
           go_simp
           (with_reducible exact Rg.up_value)
         simp only [Act.put, List.setIfInBounds_toArray, List.set_cons_zero, List.set_cons_succ])
        (refine Rr.wr_y (by simp only [List.getElem?_toArray, List.getElem?_cons_succ, List.getElem?_cons_zero]; rfl) (by rfl) ?_
         apply Exists.intro
         refine ⟨fun wz hw _ => ?_, ?_⟩
         · have hcz := hw.cells.1
           exact up_load29 (by rfl) ((hcz _ _ s5).trans j0) ((hcz _ _ s5).trans j1) ((hcz _ _ s5).trans j2) ((hcz _ _ s5).trans j3) ((hcz _ _ s5).trans j4)
         simp only [Act.put, List.setIfInBounds_toArray, List.set_cons_zero, List.set_cons_succ])
        (refine Rr.wr_y (by simp only [List.getElem?_toArray, List.getElem?_cons_succ, List.getElem?_cons_zero]; rfl) (by rfl) ?_
         apply Exists.intro
         refine ⟨fun wz hw _ => ?_, ?_⟩
         · have hcz := hw.cells.1
           go_simp
           (with_reducible exact Rg.up_value)
         simp only [Act.put, List.setIfInBounds_toArray, List.set_cons_zero, List.set_cons_succ])
        (refine Rr.wr_y (by simp only [List.getElem?_toArray, List.getElem?_cons_succ, List.getElem?_cons_zero]; rfl) (by rfl) ?_
         apply Exists.intro
         refine ⟨fun wz hw _ => ?_, ?_⟩
         · have hcz := hw.cells.1
           go_simp
           (with_reducible exact Rg.up_value)
         simp only [Act.put, List.setIfInBounds_toArray, List.set_cons_zero, List.set_cons_succ])
        (refine Rr.wr_y (by simp only [List.getElem?_toArray, List.getElem?_cons_succ, List.getElem?_cons_zero]; rfl) (by rfl) ?_
         apply Exists.intro
         refine ⟨fun wz hw _ => ?_, ?_⟩
         · have hcz := hw.cells.1
           go_simp
           (with_reducible exact Rg.up_value)
         simp only [Act.put, List.setIfInBounds_toArray, List.set_cons_zero, List.set_cons_succ])
        (refine Rr.wr_y (by simp only [List.getElem?_toArray, List.getElem?_cons_succ, List.getElem?_cons_zero]; rfl) (by rfl) ?_
         apply Exists.intro
         refine ⟨fun wz hw _ => ?_, ?_⟩
         · have hcz := hw.cells.1
           go_simp
           (with_reducible exact Rg.up_value)
         simp only [Act.put, List.setIfInBounds_toArray, List.set_cons_zero, List.set_cons_succ])
        (refine Rr.wr_y (by simp only [List.getElem?_toArray, List.getElem?_cons_succ, List.getElem?_cons_zero]; rfl) (by rfl) ?_
         apply Exists.intro
         refine ⟨fun wz hw _ => ?_, ?_⟩
         · have hcz := hw.cells.1
           exact up_load29 (by rfl) ((hcz _ _ s6).trans l0) ((hcz _ _ s6).trans l1) ((hcz _ _ s6).trans l2) ((hcz _ _ s6).trans l3) ((hcz _ _ s6).trans l4)
         simp only [Act.put, List.setIfInBounds_toArray, List.set_cons_zero, List.set_cons_succ])
        (refine Rr.wr_y (by simp only [List.getElem?_toArray, List.getElem?_cons_succ, List.getElem?_cons_zero]; rfl) (by rfl) ?_
         apply Exists.intro
         refine ⟨fun wz hw _ => ?_, ?_⟩
         · have hcz := hw.cells.1
           go_simp
           apply Rg.up_enter
           (with_reducible refine (HI.out _ (by with_reducible repeat (first | exact Ext.refl _ | assumption | apply Ext.drewN | apply Ext.drew | apply Ext.alloc | (refine Ext.setCell ?_ (by simp <;> omega) _) | (refine Ext.trans ?_ (by assumption))))).mono ?_)
           rintro e w3 ⟨rfl, hb3⟩
           exact ⟨rfl, hb3⟩
         simp only [Act.put, List.setIfInBounds_toArray, List.set_cons_zero, List.set_cons_succ])
        refine Rr.wr_nil ?_
        intro wy hy hh
        simp only [List.length_cons, List.length_nil, List.drop_succ_cons, List.drop_zero, Nat.reduceAdd]
        go_wp2
        go_roundw
        case rel => exact ⟨k + 1, by omega, rfl, by go_num, hx.trans hy⟩
        case measure => simp [intOf]; omega
      · have hkn : k = ts.length := by omega
        subst hkn
        go_wp2
        go_ret
        exact ⟨rfl, hxW.trans hx⟩
end Go.Proofs.Ytgkdeknfmmgbdaa
