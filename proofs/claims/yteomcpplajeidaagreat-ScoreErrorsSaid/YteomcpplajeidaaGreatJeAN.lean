/-
  Lemmas of this claim (JeAN). Nothing is asked.
-/
import Derived.Test.YteomcpplajeidaaGreatJeQ
import Derived.Deep.Upon
import Derived.Deep.AppendLies
import Derived.ArgAppend
namespace Go.Proofs.YteomcpplajeidaaGreat
set_option linter.unusedVariables false
set_option linter.unusedSimpArgs false
set_option maxRecDepth 100000
open Go.RowKit
theorem flat_len {α : Type} {cs : α → List Value} {sz : Nat} (hc1 : ∀ u, (cs u).length = sz) : ∀ us : List α, (us.flatMap cs).length = us.length * sz
  | [] => by simp
  | u :: us => by rw [List.flatMap_cons, List.length_append, flat_len hc1 us, hc1 u, List.length_cons, Nat.add_mul, Nat.one_mul, Nat.add_comm]
theorem append_rows {α : Type} {cs : α → List Value} {sz : Nat} (T E bytes : Nat) {z : Value} (hT : Tryz.prog.underlying T = some (.slice E))
    (hinfo : (Tryz.prog.info? E).map (fun i => (i.zero, i.size, i.bytes)) = some (some z, sz, bytes)) (hz : z.cells.size = sz) (h0 : 0 < sz) (hby : bytes ≤ 100000)
    {ops : Array Oper} {rest : List Oper} {o : Oper} {a : Act} {Q : Exit → Act → World → Prop} {w : World} (hgd : o.guard = none) (s x : Operand)
    (ho : o.op = .call { callee := .builtin .append, args := #[s, x], argTypes := #[T, T] }) (B : Nat) (v : Value) (vs : List α) (hs : a.eval s = v) (hF : w.ownsRow B E sz v vs.length (vs.flatMap cs))
    (hc1 : ∀ u, (cs u).length = sz ∧ ∀ c ∈ cs u, c.oneCell' = true)
    (A : Option Addr) (c : Nat) (us : List α) (hx : a.eval x = .slice A us.length c) (hu : us = [] ∨ ∃ b off, A = some ⟨b, off, none⟩ ∧ ∀ j u, (us.flatMap cs)[j]? = some u → w.cell? ⟨b, off + j, none⟩ = some u)
    (hn : vs.length + us.length ≤ 1000000) (hB : B ≤ w.heap.size)
    (h : ∀ v' w', w'.ownsRow B E sz v' (vs ++ us).length ((vs ++ us).flatMap cs) → w.grownBy w' v.ownBlock → wpList Tryz.prog ops Q rest (a.put o.dst v') w') : wpList Tryz.prog ops Q (o :: rest) a w := by
  obtain ⟨i0, hi, hz0, hz1, hz2⟩ := info_parts hinfo
  refine wpList_plain hgd fun K hK => ?_
  by_cases h0' : us = []
  · subst h0'
    obtain ⟨base, cap, hv, hle⟩ : ∃ base cap, v = .slice base vs.length cap ∧ vs.length ≤ cap := by
      rcases hF.2 with ⟨hn, h0⟩ | ⟨g, cap', cur, hv, hb, hg, h1, h2, h3, h4⟩
      · exact ⟨none, 0, by rw [hn, h0], by omega⟩
      · exact ⟨_, cap', hv, h1⟩
    have hsrc : Src Tryz.prog i0.size T (.slice A 0 c) 0 [] w := by
      rw [hz1]
      cases A with
      | none => exact Src.ofNil w hT c
      | some a => exact Src.ofSlice w hT a 0 c _ (by simp) (by simp) (by simp)
    have hr := run_append_nothing (P := Tryz.prog) w T T o.type E i0 hT hi base vs.length cap hle (.slice A 0 c) hsrc
    rw [← hv] at hr
    unfold Oper.wp execOp
    simp only [List.length_nil] at hx
    simp only [ho, resolve, invoke, builtin, Sem.run_bind, Sem.run_pure, Result.andThen_ok, List.map_toArray, List.map_cons, List.map_nil, hs, hx, hr]
    exact hK _ _ (h v w (by simpa using hF) ⟨rfl, rfl, rfl, Nat.le_refl _, fun _ _ _ => rfl⟩)
  · obtain ⟨b, off, rfl, hcell⟩ := hu.resolve_left h0'
    have hpos : 0 < us.length := List.length_pos_iff.2 h0'
    have hby2 : (vs.length + us.length) * bytes ≤ 1000000 * 100000 := Nat.mul_le_mul (by omega) hby
    obtain ⟨g, cap', w', hr, h2, h3, h4, h5⟩ := run_append_lies (P := Tryz.prog) w T o.type B E i0 _ sz bytes hT hi hz0 hz1 hz2 hz h0 v vs.length _ hF ⟨b, off, none⟩ us.length c (us.flatMap cs) (flat_len (fun u => (hc1 u).1) us)
      (by
        intro j u hu
        rw [Go.WideShapes.add_plain]
        exact hcell j u hu) (by intro u hu; obtain ⟨z, -, hz⟩ := List.mem_flatMap.1 hu; exact (hc1 z).2 u hz) hpos (by unfold maxLen; omega) (by omega) hB w.heap.size rfl
    unfold Oper.wp execOp
    simp only [ho, resolve, invoke, builtin, Sem.run_bind, Sem.run_pure, Result.andThen_ok, List.map_toArray, List.map_cons, List.map_nil, hs, hx, hr] at *
    refine hK _ w' (h _ w' ?_ h3)
    rw [List.flatMap_append, List.length_append]
    exact h2
theorem own_src {B E sz n : Nat} {w : World} {A : Option Addr} {c : Nat} {xs : List Value} (h : w.ownsRow B E sz (.slice A n c) n xs) : n = 0 ∨ ∃ b off, A = some ⟨b, off, none⟩ ∧ ∀ j u, xs[j]? = some u → w.cell? ⟨b, off + j, none⟩ = some u := by
  have h' := h
  rcases h.2 with ⟨hn, h0⟩ | ⟨g, cap, cur, hv, hb, hg, h1, h2, h3, h4⟩
  · exact .inl h0
  · injection hv with e1 e2 e3
    subst e1
    refine .inr ⟨g, 0, rfl, fun j u hj => ?_⟩
    have hl : j < n * sz := h.1 ▸ (List.getElem?_eq_some_iff.1 hj).1
    rw [Nat.zero_add, World.ownsRow.cellAt h' j hl, hj]
end Go.Proofs.YteomcpplajeidaaGreat
