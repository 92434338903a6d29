/-
  A struct stored in a row of structs; two new books; a book's text, two books side by side. Nothing is asked.
-/
import Derived.Test.YtnplnfkmcfalhaaGreatDoorGoA
namespace Go.Proofs.YtnplnfkmcfalhaaGreatDoor
set_option linter.unusedVariables false
set_option linter.unusedSimpArgs false
open Go.RowKit

theorem flat_set {α : Type} {cs : α → List Value} {sz : Nat} : ∀ (us : List α) (_ : ∀ x, (cs x).length = sz) (i : Nat) (_ : i < us.length) (x : α), (us.set i x).flatMap cs = (us.flatMap cs).take (i * sz) ++ cs x ++ (us.flatMap cs).drop (i * sz + sz)
  | y :: us, hl, 0, _, x => by
    rw [List.set_cons_zero, List.flatMap_cons, List.flatMap_cons, Nat.zero_mul, List.take_zero, Nat.zero_add, List.nil_append, ← hl y, List.drop_left]
  | y :: us, hl, i + 1, h, x => by
    rw [List.set_cons_succ, List.flatMap_cons, List.flatMap_cons, flat_set us hl i (by simpa using h) x]
    have e1 : (i + 1) * sz = (cs y).length + i * sz := by rw [hl y, Nat.succ_mul]; omega
    rw [e1, List.take_length_add_append, Nat.add_assoc, List.drop_length_add_append]
    simp only [List.append_assoc]
theorem gd_cs_v (g : Gd) : g.v = .agg g.cs.toArray := rfl
theorem gd_cs_one (g : Gd) : ∀ v ∈ g.cs, v.oneCell' = true := by
  intro v hv
  unfold Gd.cs at hv
  simp only [List.mem_cons, List.not_mem_nil, or_false] at hv
  rcases hv with rfl | rfl | rfl | rfl | rfl | rfl <;> rfl
theorem wpList_store_elem {ops : Array Oper} {rest : List Oper} {o : Oper} {a : Act} {w : World} {Q : Exit → Act → World → Prop} (hgd : o.guard = none) (x y : Operand) (ho : o.op = .store 23 x y)
    (g i n c B : Nat) (gs : List Gd) (x' : Gd) (hx : a.eval x = .pointer (some ⟨g, i * 6, none⟩)) (hy : a.eval y = x'.v) (hr : w.ownsRow B 23 6 (.slice (some ⟨g, 0, none⟩) n c) n (gs.flatMap Gd.cs)) (hn : gs.length = n) (hi : i < n)
    (h : ∀ w', w'.ownsRow B 23 6 (.slice (some ⟨g, 0, none⟩) n c) n ((gs.set i x').flatMap Gd.cs) → w.grownBy w' (some g) → wpList Tryz.prog ops Q rest (a.put o.dst undef) w') : wpList Tryz.prog ops Q (o :: rest) a w := by
  have hfl : (gs.flatMap Gd.cs).length = n * 6 := hr.1
  rcases hr.2 with ⟨h1, -⟩ | ⟨g', cap, cur, hv, hB, hb, h1, h2, h3, h4⟩
  · cases h1
  injection hv with hv1 hv2 hv3
  injection hv1 with hv1
  injection hv1 with hv1 _ _
  subst hv1 hv3
  have hcl : cur.toList.length = c * 6 := by rw [Array.length_toList]; exact h3
  have hA : cur.toList = gs.flatMap Gd.cs ++ cur.toList.drop (n * 6) := by rw [← h4, List.take_append_drop]
  have h6 : (x'.cs).length = 6 := rfl
  refine wpList_plain hgd fun K hK => ?_
  have hst0 := run_storeCells_at (P := Tryz.prog) g (i * 6) 23 x'.cs 0 cur w hb (by rw [h6, h3]; omega) (gd_cs_one x')
  obtain ⟨new, hnew⟩ : ∃ new, new = (cur.toList.take (i * 6 + 0) ++ x'.cs ++ cur.toList.drop (i * 6 + 0 + x'.cs.length)).toArray := ⟨_, rfl⟩
  rw [← hnew] at hst0
  have hs : (Go.sizeOf 23).run Tryz.prog w = .ok 6 w := Tryz.sizeOf23 w
  have hst : (storeVar 23 ⟨g, i * 6, none⟩ (.agg x'.cs.toArray)).run Tryz.prog w = .ok () (w.setRow g new) := by
    unfold storeVar
    simp only [Value.cells, Sem.run_bind, hs, Result.andThen_ok, h6, ne_eq, not_true_eq_false, if_false]
    exact hst0
  unfold Oper.wp execOp
  rw [gd_cs_v] at hy
  simp only [ho, hx, hy, Instr.storeAt, Instr.sureAddr, Sem.run_bind, Sem.run_pure, Result.andThen_ok, hst]
  refine hK _ _ (h _ ⟨?_, .inr ⟨g, c, new, rfl, hB, setRow_heap w g cur new 23 _ hb, h1, h2, ?_, ?_⟩⟩ ⟨rfl, rfl, rfl, by simp, fun k _ hk => setRow_other w g k new (fun e => hk (by rw [e]))⟩)
  · rw [flat_set (sz := 6) gs gd_len i (by omega), List.length_append, List.length_append, List.length_take, List.length_drop, h6, hfl]
    omega
  · have : new.toList.length = c * 6 := by
      rw [hnew]
      simp only [List.length_append, List.length_take, List.length_drop, h6, hcl]
      omega
    rw [← Array.length_toList]
    exact this
  · have hnl : new.toList = (gs.set i x').flatMap Gd.cs ++ cur.toList.drop (n * 6) := by
      rw [hnew, flat_set (sz := 6) gs gd_len i (by omega)]
      simp only [Nat.add_zero, h6]
      generalize cur.toList.drop (n * 6) = R at *
      rw [hA]
      generalize gs.flatMap Gd.cs = F at *
      rw [List.take_append, List.drop_append, show i * 6 - F.length = 0 by omega, show i * 6 + 6 - F.length = 0 by omega, List.take_zero, List.drop_zero, List.append_nil]
      simp only [List.append_assoc]
    rw [hnl]
    have hl2 : ((gs.set i x').flatMap Gd.cs).length = n * 6 := by
      rw [flat_set (sz := 6) gs gd_len i (by omega), List.length_append, List.length_append, List.length_take, List.length_drop, h6, hfl]
      omega
    rw [← hl2, List.take_left]
theorem encode_2 {w0 w : World} {p1 p2 : Nat} {b1 b2 : Bk} {o : Option Nat} (h : B2 w0 w p1 b1 p2 b2 o) (ht : TabW w) (ps : List Pl) (hps : ∀ k, (b1.gr k).isSome → k ∈ ps) (hpl : ps.length ≤ 100000)
    (fs : List Int) (hfs : ∀ n, b1.fin n = true → n ∈ fs) (hfl : fs.length ≤ 100000) (hol : b1.old.length ≤ 100000) (hnm : ∀ k g, b1.gr k = some g → g.name.size ≤ 1000) (hno : ∀ g ∈ b1.old, g.name.size ≤ 1000) :
    Calls Tryz.prog 14 #[.pointer (some ⟨p1, 0, none⟩)] w fun e w' => ∃ s, e = .returned (.string s) ∧ EncR b1 s ∧ Ext w w' := by
  obtain ⟨F1, F2, h1, -⟩ := h
  exact encode_any p1 b1 F1 w h1 ht ps hps hpl fs hfs hfl hol hnm hno
theorem changed_e {w0 w : World} {p1 p2 : Nat} {b1 b2 : Bk} {o : Option Nat} (h : B2 w0 w p1 b1 p2 b2 o) (hl : b1.old = []) :
    Calls Tryz.prog 13 #[.pointer (some ⟨p1, 0, none⟩)] w fun e w' => ∃ A c, e = .returned (.slice A 0 c) ∧ Ext w w' :=
  (changed_2 h (by rw [hl]; simp)).mono fun _ _ ⟨r, he, hr, _, hx⟩ => by
    obtain ⟨A, c, rfl⟩ := hr.form
    rw [hl] at he
    exact ⟨A, c, he, hx⟩
/-- The row that is apart from two books is written. -/
theorem B2.row {w0 w w' : World} {p1 p2 : Nat} {b1 b2 : Bk} {g : Nat} (h : B2 w0 w p1 b1 p2 b2 (some g)) (hg : w.grownBy w' (some g)) (h0 : w0.heap.size ≤ g) : B2 w0 w' p1 b1 p2 b2 (some g) := by
  obtain ⟨F1, F2, h1, h2, h3, h4, h5, h6⟩ := h
  obtain ⟨k1, k2, k3⟩ := h5 g rfl
  refine ⟨F1, F2, h1.stay (fun k hk => hg.block k (h1.lt k hk) (fun e => k1 (by injection e with e; exact e ▸ hk))), h2.stay (fun k hk => hg.block k (h2.lt k hk) (fun e => k2 (by injection e with e; exact e ▸ hk))), h3, h4, fun k hk => ⟨(h5 k hk).1, (h5 k hk).2.1, Nat.lt_of_lt_of_le (h5 k hk).2.2 hg.size⟩,
    Below.trans h6 ⟨hg.os, hg.tape, hg.output, hg.size, fun k hk => hg.block k (by have := h6.size; omega) (fun e => by injection e with e; omega)⟩⟩
end Go.Proofs.YtnplnfkmcfalhaaGreatDoor
