/-
  Changed of a book. Condition: what the book holds.
-/
import Derived.Test.YtnplnfkmcfalhaaGreatDoorGdU
import Derived.Lib.LazyBuf
namespace Go.Proofs.YtnplnfkmcfalhaaGreatDoor
set_option linter.unusedVariables false
set_option linter.unusedSimpArgs false
open Go.RowKit

theorem gd_len : ∀ g : Gd, (Gd.cs g).length = 6 := fun _ => rfl
theorem flat_one (l : List Gd) : ∀ c ∈ l.flatMap Gd.cs, c.oneCell' = true := fun c hc => by
  obtain ⟨g, -, h⟩ := List.mem_flatMap.1 hc
  simp only [Gd.cs, List.mem_cons, List.not_mem_nil, or_false] at h
  rcases h with rfl | rfl | rfl | rfl | rfl | rfl <;> rfl

theorem append_lit {ops : Array Oper} {rest : List Oper} {o : Oper} {a : Act} {Q : Exit → Act → World → Prop} {w : World} (hgd : o.guard = none) (s x : Operand)
    (ho : o.op = .call { callee := .builtin .append, args := #[s, x], argTypes := #[32, 32] }) (p : Nat) (hs : a.eval s = .slice (some ⟨p, 0, none⟩) 0 0) (hp : w.heap[p]? = some (.cells #[] 23))
    (g c : Nat) (l : List Gd) (hx : a.eval x = .slice (some ⟨g, 0, none⟩) l.length c) (hl : w.ownsRow 0 23 6 (.slice (some ⟨g, 0, none⟩) l.length c) l.length (l.flatMap Gd.cs)) (hn : l.length ≤ 100000)
    (h : ∀ r w', w'.ownsRow p 23 6 r l.length (l.flatMap Gd.cs) → Below p w w' → wpList Tryz.prog ops Q rest (a.put o.dst r) w') : wpList Tryz.prog ops Q (o :: rest) a w := by
  have hpw := Rg.lt_of_heap hp
  have hown : w.ownsRow p 23 6 (.slice (some ⟨p, 0, none⟩) 0 0) 0 [] := ⟨rfl, .inr ⟨p, 0, #[], rfl, Nat.le_refl _, hp, by simp, by simp, rfl, rfl⟩⟩
  obtain ⟨i0, hi, hz0, hz1, hz2⟩ := info_parts (show (Tryz.prog.info? 23).map (fun i => (i.zero, i.size, i.bytes)) = some (some (.agg #[.int .i64 0, .int .i64 0, .int .i64 0, .string ⟨#[]⟩, .int .i64 0, .int .i64 0]), 6, 56) by kernel_rfl)
  refine wpList_plain hgd fun K hK => ?_
  have hfl : (l.flatMap Gd.cs).length = l.length * 6 := hl.1
  rcases Nat.eq_zero_or_pos l.length with h0 | hpos
  · obtain rfl : l = [] := List.length_eq_zero_iff.1 h0
    have hsrc : Src Tryz.prog i0.size 32 (.slice (some ⟨g, 0, none⟩) 0 c) 0 [] w := by
      rw [hz1]
      exact Src.ofSlice w Tryz.underlying32 ⟨g, 0, none⟩ 0 c _ (by simp) (by simp) (by simp)
    have hr := run_append_nothing (P := Tryz.prog) w 32 32 o.type 23 i0 Tryz.underlying32 hi (some ⟨p, 0, none⟩) 0 0 (Nat.le_refl _) (.slice (some ⟨g, 0, none⟩) 0 c) hsrc
    simp only [List.length_nil] at hx
    unfold Oper.wp execOp
    simp only [ho, resolve, invoke, builtin, Sem.run_bind, Sem.run_pure, Result.andThen_ok, List.map_toArray, List.map_cons, List.map_nil, hs, hx, hr]
    exact hK _ _ (h _ w hown (Below.refl _ _))
  · obtain ⟨g', cap', w', hr, h2, h3, h4, h5⟩ := run_append_lies (P := Tryz.prog) w 32 o.type p 23 i0 _ 6 56 Tryz.underlying32 hi hz0 hz1 hz2 rfl (by decide) _ 0 [] hown ⟨g, 0, none⟩ l.length c (l.flatMap Gd.cs) hfl
      (by
        intro j u hj
        rw [addr_add]
        have hjl : j < (l.flatMap Gd.cs).length := (List.getElem?_eq_some_iff.1 hj).1
        rw [World.ownsRow.cellAt hl j (by omega)]
        exact hj) (flat_one l) hpos (by unfold maxLen; omega) (by omega) (by omega) w.heap.size rfl
    unfold Oper.wp execOp
    simp only [ho, resolve, invoke, builtin, Sem.run_bind, Sem.run_pure, Result.andThen_ok, List.map_toArray, List.map_cons, List.map_nil, hs, hx, hr, Nat.zero_add, List.nil_append] at *
    refine hK _ _ (h _ w' h2 ⟨h3.os, h3.tape, h3.output, h3.size, fun k hk => h3.block k (by omega) ?_⟩)
    simp [Value.ownBlock]
    omega

set_option maxRecDepth 100000 in
set_option maxHeartbeats 1000000 in
theorem Clone_any (v : Value) (l : List Gd) (w : World) (h : w.ownsRow 0 23 6 v l.length (l.flatMap Gd.cs)) (hl : l.length ≤ 100000) :
    Calls Tryz.prog 29 #[v] w fun e w' => ∃ r, e = .returned r ∧ SR Gd.cs 6 w' r l ∧ (∀ B, B ≤ w.heap.size → w'.ownsRow B 23 6 r l.length (l.flatMap Gd.cs)) ∧ Ext w w' := by
  rcases h.2 with ⟨rfl, h0⟩ | ⟨g, cap, cur, rfl, hb, hg, h1, h2, h3, h4⟩
  · obtain rfl : l = [] := List.length_eq_zero_iff.1 h0
    have hne := Lib.run_eql_slice_nil (P := Tryz.prog) w 32 23 none 0 0 0 0 Tryz.underlying32
    go_enter Tryz.func29, Tryz.ntmps29
    go_wp2_with (fail)
    go_ret
    exact ⟨_, rfl, ⟨none, 0, rfl, by simp, .inl rfl⟩, fun B _ => World.ownsRow_nil _ _ _ _, Ext.refl _⟩
  · have hne := Lib.run_eql_slice_nil (P := Tryz.prog) w 32 23 (some ⟨g, 0, none⟩) l.length cap 0 0 Tryz.underlying32
    have HOWN := Lib.hid h
    simp only [Option.isNone_some] at hne
    clear hg h1 h2 h3 h4 h
    go_enter Tryz.func29, Tryz.ntmps29
    go_wp2_with (at_builtin; go_loud (refine append_lit rfl _ _ rfl w.heap.size (by rfl) (heap_alloc_new _ _) g cap l (by rfl) (row_ext HOWN.out (Ext.alloc (Ext.refl _) _)) hl ?_; intro r w2 hr2 hb2))
    go_ret
    exact ⟨_, rfl, SR.of_row gd_len hr2 (by omega), fun B hB => World.ownsRow.mono hr2 hB, Below.trans (Ext.alloc (Ext.refl _) _) hb2⟩

set_option maxRecDepth 100000 in
theorem Changed_any (p : Nat) (b : Bk) (F : List Nat) (w : World) (h : BR w p b F) (hl : b.old.length ≤ 100000) :
    Calls Tryz.prog 13 #[.pointer (some ⟨p, 0, none⟩)] w fun e w' => ∃ r, e = .returned r ∧ SR Gd.cs 6 w' r b.old ∧ (∀ B, B ≤ w.heap.size → w'.ownsRow B 23 6 r b.old.length (b.old.flatMap Gd.cs)) ∧ Ext w w' := by
  obtain ⟨ml, mc, md, mg, mf, cv, hp, -, -, -, -, -, -, -, h6, -⟩ := h
  have hc := Clone_any cv b.old w h6 hl
  have c5 := cell_of_row w p 5 _ _ _ hp
  go_enter Tryz.func13, Tryz.ntmps13
  go_wp2_with (go_at_call 29; (with_reducible refine hc.mono ?_); rintro e w2 ⟨r, rfl, hr, ho, hx⟩)
  go_ret
  exact ⟨_, rfl, hr, ho, hx⟩
end Go.Proofs.YtnplnfkmcfalhaaGreatDoor
