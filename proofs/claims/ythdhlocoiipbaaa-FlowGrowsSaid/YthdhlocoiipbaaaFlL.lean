/-
  The labels of an item, and of all items. Condition: the slice holds the items.
-/
import Derived.Test.YthdhlocoiipbaaaFlV
import Derived.Laws.EntriesVeiled
namespace Go.Proofs.Ythdhlocoiipbaaa
set_option linter.unusedVariables false
set_option linter.unusedSimpArgs false
open Go.RowKit

/-- Blocks made one after the other. -/
theorem exts : ∀ (os : List Obj) (w : World), Ext w (os.foldl World.alloc w)
  | [], w => Ext.refl w
  | o :: os, w => ((Ext.refl w).alloc o).trans (exts os _)
theorem news : ∀ (os : List Obj) (w : World) (i : Nat), i < os.length → (os.foldl World.alloc w).heap[w.heap.size + i]? = os[i]?
  | o :: os, w, 0, _ => ((exts os (w.alloc o)).block _ (by simp)).trans (World.alloc_heap_new w o)
  | o :: os, w, i + 1, h => by
    have := news os (w.alloc o) i (by simpa using h)
    rw [World.size_alloc] at this
    rw [List.foldl_cons, show w.heap.size + (i + 1) = w.heap.size + 1 + i by omega, this]
    rfl

set_option maxRecDepth 100000 in
set_option maxHeartbeats 2000000 in
theorem labels_any (xs : List It) (mb : Nat) (x : It) (w : World) (hxs : ∀ x ∈ xs, x.good w) (hx : x.good w) (hm : MI w mb (tabl xs)) :
    Calls Try.prog 27 #[.map (some mb), x.v] w fun e w' => ∃ o, e = .returned (.int .i64 o) ∧ LabS xs x o ∧ Ext w w' := by
  have hmm := @run_makeMap Try.prog
  obtain ⟨xid, xlab, xfv, xfrm⟩ := x
  have hf := hx.2.2
  have hg := hf
  obtain ⟨A, c, hfv, -⟩ := hf
  simp only at hfv
  subst hfv
  simp only [It.v]
  go_enter Try.func27, Try.ntmps27
  go_wp2_with (go_at_call 41; (with_reducible refine (visit_any xs w.heap.size mb (w.heap.size + 1 + 1 + 1 + 1) (w.heap.size + 1 + 1 + 1) (w.heap.size + 1 + 1) (w.heap.size + 1 + 1 + 1 + 1 + 1) w hxs ?_ ?_ (uns xs [] + 1) [] xlab _ xfrm _ ?_ ?_ hg).mono ?_); rotate_left 4; rintro e w5 ⟨⟨r, rfl⟩, S2, o2, hV5, hD5⟩; have c5 := cell_of_row w5 _ 0 _ _ _ hV5.out)
  · go_ret
    exact ⟨_, rfl, hD5.lab hV5.ok, hV5.low⟩
  · have := hm.lt
    omega
  · omega
  · have N := news [.cells #[.map (some mb)] 55, .cells #[.int .i64 xid, .int .i64 xlab, .slice A xfrm.length c] 32, .cells #[.int .i64 xlab] 3, .map #[] 0, .cells #[.map (some (w.heap.size + 1 + 1 + 1))] 51,
      .cells #[.func (.func 41) #[] #[.pointer (some ⟨w.heap.size, 0, none⟩), .pointer (some ⟨w.heap.size + 1 + 1 + 1 + 1, 0, none⟩), .pointer (some ⟨w.heap.size + 1 + 1, 0, none⟩), .pointer (some ⟨w.heap.size + 1 + 1 + 1 + 1 + 1, 0, none⟩)]] 74] w
    have hE : Ext w _ := exts [.cells #[.map (some mb)] 55, .cells #[.int .i64 xid, .int .i64 xlab, .slice A xfrm.length c] 32, .cells #[.int .i64 xlab] 3, .map #[] 0, .cells #[.map (some (w.heap.size + 1 + 1 + 1))] 51,
      .cells #[.func (.func 41) #[] #[.pointer (some ⟨w.heap.size, 0, none⟩), .pointer (some ⟨w.heap.size + 1 + 1 + 1 + 1, 0, none⟩), .pointer (some ⟨w.heap.size + 1 + 1, 0, none⟩), .pointer (some ⟨w.heap.size + 1 + 1 + 1 + 1 + 1, 0, none⟩)]] 74] w
    exact ⟨N 0 (by simp), hm.ext hE, N 4 (by simp), ⟨by simp [seenL], by simp [seenL], #[], 0, N 3 (by simp), by simp [seenL]⟩, N 2 (by simp), N 5 (by simp), hE, hx.2.1⟩

/-- An int, as it lies in a slice. -/
def celI (i : Int) : List Value := [.int .i64 i]
theorem celI_len : ∀ x : Int, (celI x).length = 1 ∧ ∀ c ∈ celI x, c.oneCell' = true := fun x => ⟨rfl, by simp [celI, Value.oneCell']⟩
theorem append_int {ops : Array Oper} {rest : List Oper} {o : Oper} {a : Act} {Q : Exit → Act → World → Prop} {w : World} (hgd : o.guard = none) (s x : Operand)
    (ho : o.op = .call { callee := .builtin .append, args := #[s, x], argTypes := #[28, 28] }) (B : Nat) (v : Value) (zs : List Int) (hs : a.eval s = v) (hF : w.ownsRow B 3 1 v zs.length (zs.flatMap celI))
    (p : Nat) (i : Int) (hx : a.eval x = .slice (some ⟨p, 0, none⟩) 1 1) (hp : w.heap[p]? = some (.cells #[.int .i64 i] 3)) (hn : zs.length < 1000000) (hB : B ≤ w.heap.size)
    (h : ∀ g cap w', w'.ownsRow B 3 1 (.slice (some ⟨g, 0, none⟩) (zs.length + 1) cap) (zs ++ [i]).length ((zs ++ [i]).flatMap celI) → Below B w w' → wpList Try.prog ops Q rest (a.put o.dst (.slice (some ⟨g, 0, none⟩) (zs.length + 1) cap)) w') : wpList Try.prog ops Q (o :: rest) a w :=
  append_one (cs := celI) (z := .int .i64 0) celI_len 28 3 8 Try.underlying28 (by kernel_rfl) (by rfl) (by decide) (by decide) hgd s x ho B v zs hs hF p i hx hp hn hB h
theorem celI_map (zs : List Int) : zs.flatMap celI = zs.map (Value.int .i64) := by
  induction zs with
  | nil => rfl
  | cons z zs ih => rw [List.flatMap_cons, ih]; rfl
theorem ird_row {B : Nat} {w : World} {v : Value} {zs : List Int} (h : w.ownsRow B 3 1 v zs.length (zs.flatMap celI)) (hz : ∀ z ∈ zs, OkI z) (hl : zs.length ≤ 1000000) : IRd w v zs := by
  have h1 := SR.of_row (cs := celI) (fun x => (celI_len x).1) h hl
  obtain ⟨base, cap, rfl, h2, h3⟩ := h1
  exact ⟨base, cap, rfl, by omega, hz, h3.imp id fun ⟨b, hb, hc⟩ => ⟨b, 0, hb, fun k hk => by have := hc k hk 0 _ rfl; simpa using this⟩⟩

/-- The labels of all items are the ints zs. -/
def LabA (xs : List It) (zs : List Int) : Prop := zs.length = xs.length ∧ ∀ k (h : k < xs.length) (h' : k < zs.length), LabS xs xs[k] zs[k]
theorem LabA.unique {xs : List It} {zs zs' : List Int} (h : LabA xs zs) (h' : LabA xs zs') : zs = zs' := by
  refine List.ext_getElem (h.1.trans h'.1.symm) fun k h1 h2 => ?_
  exact (h.2 k (h.1 ▸ h1) h1).unique (h'.2 k (h.1 ▸ h1) h2)

set_option maxRecDepth 100000 in
set_option maxHeartbeats 2000000 in
theorem Labels_any (xs : List It) (v : Value) (w : World) (h : RI w v xs) :
    Calls Try.prog 15 #[v] w fun e w' => ∃ r zs, e = .returned r ∧ IRd w' r zs ∧ LabA xs zs ∧ Ext w w' := by
  obtain ⟨base, cap, rfl⟩ := h.1.form
  have hle := h.1.le
  go_enter Try.func15, Try.ntmps15
  go_wp2_with (go_at_call 26; (with_reducible refine (table_any _ xs _ h).mono ?_); rintro e w1 ⟨b, rfl, hm, hx1, hb⟩)
  go_loopw [4, 11] (fun o k wr => ∃ (j : Nat) (zs : List Int), k = .int .i64 j ∧ j ≤ xs.length ∧ zs.length = j ∧ wr.ownsRow w1.heap.size 3 1 o zs.length (zs.flatMap celI) ∧ (∀ (i : Nat) (z : Int), zs[i]? = some z → ∃ x, xs[i]? = some x ∧ LabS xs x z) ∧ Ext w1 wr) (fun _ k _ => xs.length - (iof k).toNat)
  case atStart => exact ⟨0, [], rfl, by omega, rfl, World.ownsRow_nil _ _ _ _, by simp, Ext.refl _⟩
  case round =>
    obtain ⟨j, zs, rfl, hj, hzl, hrow, hlab, hxr⟩ := hrel
    by_cases hjl : j < xs.length
    · obtain ⟨bb, off, rfl, -, c0, c1, c2⟩ := it_at ((h.1.ext hx1).ext hxr) j hjl
      have hgx := ((h.2 xs[j] (List.getElem_mem _)).ext hx1).ext hxr
      have hxj : xs[j]? = some xs[j] := List.getElem?_eq_getElem hjl
      generalize xs[j] = x at *
      obtain ⟨xid, xlab, xfv, xfrm⟩ := x
      obtain ⟨A, c, hfv, -⟩ := id hgx.2.2
      simp only at hfv c0 c1 c2
      subst hfv
      have hg0 : ∀ x ∈ xs, x.good (wr.alloc (.cells #[.int .i64 xid, .int .i64 xlab, .slice A xfrm.length c] 32)) := fun x hx => (((h.2 x hx).ext hx1).ext hxr).ext (Ext.alloc (Ext.refl _) _)
      go_wp2_with (first
        | (go_at_call 27; have L := labels_any xs b ⟨xid, xlab, .slice A xfrm.length c, xfrm⟩ _ hg0 (hgx.ext (Ext.alloc (Ext.refl _) _)) ((hm.ext hxr).ext (Ext.alloc (Ext.refl _) _)); simp only [It.v] at L; (with_reducible refine L.mono ?_); clear L; rintro e w2 ⟨o, rfl, hlo, hx2⟩; have hxs : Ext wr w2 := (Ext.alloc (Ext.refl _) _).trans hx2; have hr2 := row_ext hrow hxs)
        | (at_builtin; go_loud (refine append_int rfl _ _ rfl w1.heap.size _ zs (by rfl) (row_ext hr2 (Ext.alloc (Ext.refl _) _)) _ o (by rfl) (World.alloc_heap_new _ _) (by omega) (by have := hxr.size; have := hxs.size; simp; omega) ?_; intro g cap' w3 hr3 hb3)))
      refine ⟨⟨j + 1, zs ++ [o], by simp, by omega, by simp; omega, by simpa [hzl] using hr3, ?_, ?_⟩, by simp; omega⟩
      · intro i z hi
        by_cases hij : i < zs.length
        · rw [List.getElem?_append_left hij] at hi
          exact hlab i z hi
        · rw [List.getElem?_append_right (by omega)] at hi
          obtain ⟨e1, e2⟩ : i - zs.length = 0 ∧ o = z := by
            cases hh : i - zs.length with
            | zero => rw [hh] at hi; exact ⟨rfl, by simpa using hi⟩
            | succ n => rw [hh] at hi; simp at hi
          subst e2
          obtain rfl : i = j := by omega
          exact ⟨_, hxj, hlo⟩
      · exact Below.trans (Below.trans hxr ((hxs.trans (Ext.alloc (Ext.refl _) _)).mono hxr.size)) hb3
    · obtain rfl : j = xs.length := by omega
      go_wp2_with (fail)
      go_ret
      refine ⟨_, zs, rfl, ird_row hrow (fun z hz => ?_) (by omega), ⟨hzl, fun k h1 h2 => ?_⟩, hx1.trans hxr⟩
      · obtain ⟨i, hi, rfl⟩ := List.getElem_of_mem hz
        obtain ⟨x, -, hl⟩ := hlab i _ (List.getElem?_eq_getElem hi)
        exact hl.1
      · obtain ⟨x, hx, hl⟩ := hlab k _ (List.getElem?_eq_getElem h2)
        rw [List.getElem?_eq_getElem h1] at hx
        cases hx
        exact hl

end Go.Proofs.Ythdhlocoiipbaaa
