/-
  The visits behind labels. Conditions: the captured variables lie as they are made.
-/
import Derived.Test.YthdhlocoiipbaaaFlB
import Derived.Test.YthdhlocoiipbaaaFlT
namespace Go.Proofs.Ythdhlocoiipbaaa
set_option linter.unusedVariables false
set_option linter.unusedSimpArgs false
open Go.RowKit

theorem Ext.trans' {w0 W W' : World} (h : Ext w0 W) {b : Nat} (hg : W.grownBy W' (some b)) (h0 : w0.heap.size ≤ b) : Ext w0 W' :=
  Below.trans h ⟨hg.os, hg.tape, hg.output, hg.size, fun k hk => hg.block k (by have := h.size; omega) (by simp; omega)⟩

/-- What the captured variables hold: the table, the seen ones, the labels, the closure. -/
structure VS (xs : List It) (pb mb ps ms po pv : Nat) (w0 W : World) (S : List Int) (o : Int) : Prop where
  by' : W.heap[pb]? = some (.cells #[.map (some mb)] 55)
  tab : MI W mb (tabl xs)
  seen' : W.heap[ps]? = some (.cells #[.map (some ms)] 51)
  seen : MI W ms (seenL S)
  out : W.heap[po]? = some (.cells #[.int .i64 o] 3)
  clo : W.heap[pv]? = some (.cells #[.func (.func 41) #[] #[.pointer (some ⟨pb, 0, none⟩), .pointer (some ⟨ps, 0, none⟩), .pointer (some ⟨po, 0, none⟩), .pointer (some ⟨pv, 0, none⟩)]] 74)
  low : Ext w0 W
  ok : OkI o

theorem VS.ext {xs : List It} {pb mb ps ms po pv : Nat} {w0 W W' : World} {S : List Int} {o : Int} (h : VS xs pb mb ps ms po pv w0 W S o) (e : Ext W W') : VS xs pb mb ps ms po pv w0 W' S o :=
  ⟨(e.block _ (Rg.lt_of_heap h.by')).trans h.by', h.tab.ext e, (e.block _ (Rg.lt_of_heap h.seen')).trans h.seen', h.seen.ext e, (e.block _ (Rg.lt_of_heap h.out)).trans h.out, (e.block _ (Rg.lt_of_heap h.clo)).trans h.clo, h.low.trans e, h.ok⟩
/-- One more is seen. -/
theorem VS.more {xs : List It} {pb mb ps ms po pv : Nat} {w0 W W' : World} {S S' : List Int} {o : Int} (h : VS xs pb mb ps ms po pv w0 W S o) (hg : W.grownBy W' (some ms)) (hm : MI W' ms (seenL S')) (hd : mb ≠ ms) (h0 : w0.heap.size ≤ ms) : VS xs pb mb ps ms po pv w0 W' S' o := by
  obtain ⟨es, ck, hms, -⟩ := h.seen.2.2
  have keep : ∀ k c t, W.heap[k]? = some (Obj.cells c t (0, 0)) → W'.heap[k]? = some (Obj.cells c t (0, 0)) := fun k c t hk => (hg.block k (Rg.lt_of_heap hk) (fun e => by cases e; rw [hms] at hk; cases hk)).trans hk
  exact ⟨keep _ _ _ h.by', h.tab.kept hg (by simpa using hd), keep _ _ _ h.seen', hm, keep _ _ _ h.out, keep _ _ _ h.clo, h.low.trans' hg h0, h.ok⟩
/-- The labels are written. -/
theorem VS.wrote {xs : List It} {pb mb ps ms po pv : Nat} {w0 W : World} {S : List Int} {o : Int} (h : VS xs pb mb ps ms po pv w0 W S o) {o' : Int} (ho : OkI o') (hd : pb ≠ po ∧ ps ≠ po ∧ pv ≠ po ∧ mb ≠ ms) (h0 : w0.heap.size ≤ po) : VS xs pb mb ps ms po pv w0 (W.setCell ⟨po, 0, none⟩ (.int .i64 o')) S o' := by
  have keep : ∀ k, k ≠ po → (W.setCell ⟨po, 0, none⟩ (.int .i64 o')).heap[k]? = W.heap[k]? := fun k hk => RowKit.Below.heap_setCell _ _ _ _ hk
  have notmap : ∀ {m : Nat} {l : List (Int × Value)}, MI W m l → m ≠ po := fun {m l} hm e => by
    subst e
    obtain ⟨es, ck, hms, -⟩ := hm.2.2
    rw [h.out] at hms; cases hms
  exact ⟨(keep _ hd.1).trans h.by', h.tab.of_block (keep _ (notmap h.tab)), (keep _ hd.2.1).trans h.seen', h.seen.of_block (keep _ (notmap h.seen)), Boxed.set _ h.out, (keep _ hd.2.2.1).trans h.clo, Below.setCell h.low h0 _, ho⟩

theorem bits_or (x y : Int) : bits BinOp.or IntKind.i64 x y = bor x y := rfl

set_option maxRecDepth 100000 in
set_option maxHeartbeats 2000000 in
theorem visit_any (xs : List It) (pb mb ps ms po pv : Nat) (w0 : World) (hgood : ∀ x ∈ xs, x.good w0) (hd : pb ≠ po ∧ ps ≠ po ∧ pv ≠ po ∧ mb ≠ ms) (h0 : w0.heap.size ≤ ms ∧ w0.heap.size ≤ po) :
    ∀ (N : Nat) (S : List Int) (o : Int) (v : Value) (l : List Int) (W : World), uns xs S < N → VS xs pb mb ps ms po pv w0 W S o → IRd w0 v l →
      Calls Try.prog 41 #[v, .pointer (some ⟨pb, 0, none⟩), .pointer (some ⟨ps, 0, none⟩), .pointer (some ⟨po, 0, none⟩), .pointer (some ⟨pv, 0, none⟩)] W fun e W' =>
        (∃ r, e = .returned r) ∧ ∃ S' o', VS xs pb mb ps ms po pv w0 W' S' o' ∧ DV xs S o l S' o' := by
  intro N
  induction N with
  | zero => intro S o v l W hN; omega
  | succ N ih =>
  intro S o v l W hN hV hl
  obtain ⟨A, cap, rfl, hlen, hrng, hcell⟩ := hl
  go_enter Try.func41, Try.ntmps41
  go_wp2_with (fail)
  go_loopw [12] (fun k wr => ∃ (j : Nat) (S1 : List Int) (o1 : Int), k = .int .i64 j ∧ j ≤ l.length ∧ VS xs pb mb ps ms po pv w0 wr S1 o1 ∧ DV xs S o (l.take j) S1 o1) (fun k _ => l.length - (iof k).toNat)
  case atStart => exact ⟨0, S, o, rfl, by omega, hV, by rw [List.take_zero]; exact DV.nil _ _ _⟩
  case round =>
    obtain ⟨j, S1, o1, rfl, hj, hV1, hD⟩ := hrel
    by_cases hjl : j < l.length
    · have hlow := hV1.low
      obtain ⟨b, off, rfl, hc⟩ := hcell.resolve_left (by intro e; rw [e] at hjl; simp at hjl)
      have hcj := (hlow.cells.1 _ _ (World.block_lt_of_cell? w0 _ (hc j hjl))).trans (hc j hjl)
      have hidr := hrng l[j] (List.getElem_mem _)
      have htk : l.take (j + 1) = l.take j ++ [l[j]] := List.take_succ_eq_append_getElem hjl
      generalize hid : l[j] = id at *
      have cb := cell_of_row wr pb 0 _ _ _ hV1.by'
      have cs := cell_of_row wr ps 0 _ _ _ hV1.seen'
      have hlk := tabl_look xs id
      cases hf : fnd xs id with
      | none =>
        rw [hf] at hlk
        simp only [Option.map_none] at hlk
        have hrun := hV1.tab.look keI Try.underlying55 (z := .agg #[.int .i64 0, .int .i64 0, .slice none 0 0]) (by rfl) hidr true
        rw [hlk] at hrun
        simp only [if_true, Option.getD_none, Option.isSome_none, encI] at hrun
        go_wp2_with (fail)
        refine ⟨⟨j + 1, S1, o1, by simp, by omega, hV1.ext ((by with_reducible repeat (first | exact Ext.refl _ | assumption | apply Ext.drewN | apply Ext.drew | apply Ext.alloc | (refine Ext.setCell ?_ (by simp <;> omega) _) | (refine Ext.trans ?_ (by assumption)))) : Ext wr (wr.alloc _)), ?_⟩, by simp; omega⟩
        rw [htk]
        exact hD.skip (.inl hf)
      | some y =>
        have hy := hgood y (List.mem_of_find?_eq_some hf)
        obtain ⟨yid, ylab, yfv, yfrm⟩ := y
        have hyf := hy.2.2
        have hyg := hyf
        obtain ⟨A', c', hfv, -⟩ := hyf
        simp only at hfv
        subst hfv
        rw [hf] at hlk
        simp only [Option.map_some, It.v] at hlk
        have hrun := hV1.tab.look keI Try.underlying55 (z := .agg #[.int .i64 0, .int .i64 0, .slice none 0 0]) (by rfl) hidr true
        rw [hlk] at hrun
        simp only [if_true, Option.getD_some, Option.isSome_some, encI] at hrun
        have hVa : VS xs pb mb ps ms po pv w0 (wr.alloc (.cells #[.int .i64 yid, .int .i64 ylab, .slice A' yfrm.length c'] 32)) S1 o1 := hV1.ext ((by with_reducible repeat (first | exact Ext.refl _ | assumption | apply Ext.drewN | apply Ext.drew | apply Ext.alloc | (refine Ext.setCell ?_ (by simp <;> omega) _) | (refine Ext.trans ?_ (by assumption)))) : Ext wr (wr.alloc _))
        have hrun2 := hVa.seen.look keI Try.underlying51 (z := .bool false) (by rfl) hidr false
        simp only [Bool.false_eq_true, if_false, encI] at hrun2
        rw [seenL_look] at hrun2
        have cs2 := cell_of_row _ ps 0 _ _ _ hVa.seen'
        by_cases hs : id ∈ S1
        · simp only [hs, decide_true] at hrun2
          go_wp2_with (fail)
          refine ⟨⟨j + 1, S1, o1, by simp, by omega, hVa, ?_⟩, by simp; omega⟩
          rw [htk]
          exact hD.skip (.inr hs)
        · simp only [hs, decide_false] at hrun2
          go_wp2_with (first
            | (at_mapUpdate; refine wpList_store rfl _ _ _ 51 rfl 3 4 keI Try.underlying51 ms _ rfl hVa.seen id rfl hidr (.bool true) rfl ?_; intro w3 hm3 hg3
               rw [seenL_put S1 id hs] at hm3
               have hV3 := hVa.more hg3 hm3 hd.2.2.2 h0.1
               have d0 := cell_of_row w3 po 0 _ _ _ hV3.out
               have d0f := Boxed.frozen (W := w3) hV3.out
               have d1 := cell_of_row w3 pv 0 _ _ _ hV3.clo
               have d2 : w3.heap[wr.heap.size]? = some (.cells #[.int .i64 yid, .int .i64 ylab, .slice A' yfrm.length c'] 32) := (hg3.block _ (by simp) (by
                 obtain ⟨es, ck, hms, -⟩ := hV1.seen.2.2
                 have := Rg.lt_of_heap hms
                 simp; omega)).trans (World.alloc_heap_new wr _)
               have d3 := cell_of_row w3 wr.heap.size 1 _ _ _ d2
               have d4 := cell_of_row w3 wr.heap.size 2 _ _ _ d2)
            | (go_at_call 41; rw [bits_or]; (with_reducible refine (ih (S1 ++ [id]) (bor o1 ylab) _ yfrm _ ?_ (hV3.wrote (bor_ok _ _) hd h0.2) hyg).mono ?_); rotate_left; rintro e w5 ⟨⟨r, rfl⟩, S2, o2, hV5, hD5⟩))
          · refine ⟨⟨j + 1, S2, o2, by simp, by omega, hV5, ?_⟩, by simp; omega⟩
            rw [htk]
            exact hD.visit hs hf hD5
          · have := uns_lt hf hs
            have := uns_le xs hD.1
            omega
    · obtain rfl : j = l.length := by omega
      go_wp2_with (fail)
      rw [List.take_length] at hD
      go_end0
      exact ⟨⟨_, rfl⟩, S1, o1, hV1, hD⟩

end Go.Proofs.Ythdhlocoiipbaaa
