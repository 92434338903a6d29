/-
  few: the first items of an argument, each with own origins. Condition: the argument reads as items.
-/
import Derived.Test.YthdhlocoiipbaaaLawI
import Derived.Deep.Upon
namespace Go.Proofs.Ythdhlocoiipbaaa
set_option linter.unusedVariables false
set_option linter.unusedSimpArgs false
open Go.RowKit

theorem ird_src {w : World} {A : Option Addr} {n c c' m : Nat} {ls : List Int} (h : IRd w (.slice A n c) ls) (hm : m ≤ ls.length) :
    Src Try.prog 1 28 (.slice A m c') m ((ls.take m).map (Value.int .i64)) w ∧ ∀ z ∈ ls, OkI z := by
  obtain ⟨A', cap, e, hl, hz, hc⟩ := h
  injection e with e1 e2 e3
  subst e1
  refine ⟨?_, hz⟩
  rcases Nat.eq_zero_or_pos m with rfl | hpos
  · cases A with
    | none => exact Src.ofNil w Try.underlying28 c'
    | some a => exact Src.ofSlice w Try.underlying28 a 0 c' _ (by simp) (by simp) (by simp)
  · obtain ⟨b, off, rfl, hcell⟩ := hc.resolve_left (by intro e; rw [e] at hm; simp at hm; omega)
    refine Src.ofSlice w Try.underlying28 _ m c' _ (by simp; omega) ?_ (by intro u hu; obtain ⟨z, -, rfl⟩ := List.mem_map.1 hu; rfl)
    intro j u hu
    have hj : j < m := by have := (List.getElem?_eq_some_iff.1 hu).1; simp at this; omega
    rw [List.getElem?_eq_getElem (by simp; omega)] at hu
    simp only [List.getElem_map, List.getElem_take, Option.some.injEq] at hu
    subst hu
    have := hcell j (by omega)
    rw [Go.WideShapes.add_plain]
    exact this

theorem append_cut {ops : Array Oper} {rest : List Oper} {o : Oper} {a : Act} {Q : Exit → Act → World → Prop} {w : World} (hgd : o.guard = none) (s x : Operand)
    (ho : o.op = .call { callee := .builtin .append, args := #[s, x], argTypes := #[28, 28] }) (B p : Nat) (hs : a.eval s = .slice (some ⟨p, 0, none⟩) 0 0) (hp : w.heap[p]? = some (.cells #[] 3)) (hB : B ≤ p)
    (A : Option Addr) (n c c' m : Nat) (ls : List Int) (hx : a.eval x = .slice A m c') (hl : IRd w (.slice A n c) ls) (hm : m ≤ ls.length) (hm5 : m ≤ 5)
    (h : ∀ g cap w', w'.ownsRow B 3 1 (.slice (some ⟨g, 0, none⟩) m cap) m ((ls.take m).flatMap celI) → Below p w w' → wpList Try.prog ops Q rest (a.put o.dst (.slice (some ⟨g, 0, none⟩) m cap)) w') : wpList Try.prog ops Q (o :: rest) a w := by
  obtain ⟨hsrc, hz⟩ := ird_src (c' := c') hl hm
  have hpw := Rg.lt_of_heap hp
  have hown : w.ownsRow B 3 1 (.slice (some ⟨p, 0, none⟩) 0 0) 0 [] := ⟨rfl, .inr ⟨p, 0, #[], rfl, hB, hp, by simp, by simp, rfl, rfl⟩⟩
  obtain ⟨i0, hi, hz0, hz1, hz2⟩ := info_parts (show (Try.prog.info? 3).map (fun i => (i.zero, i.size, i.bytes)) = some (some (.int .i64 0), 1, 8) by kernel_rfl)
  rcases Nat.eq_zero_or_pos m with rfl | hpos
  · refine wpList_plain hgd fun K hK => ?_
    have hr := run_append_nothing (P := Try.prog) w 28 28 o.type 3 i0 Try.underlying28 hi (some ⟨p, 0, none⟩) 0 0 (Nat.le_refl _) (.slice A 0 c') (by rw [hz1]; simpa using hsrc)
    unfold Oper.wp execOp
    simp only [ho, resolve, invoke, builtin, Sem.run_bind, Sem.run_pure, Result.andThen_ok, List.map_toArray, List.map_cons, List.map_nil, hs, hx, hr]
    exact hK _ _ (h p 0 w (by simpa using hown) (Below.refl _ _))
  · refine wpList_plain hgd fun K hK => ?_
    have hlen : ((ls.take m).map (Value.int .i64)).length = m * 1 := by simp; omega
    obtain ⟨A', cap, e, -, -, hc⟩ := hl
    injection e with e1 e2 e3
    subst e1
    obtain ⟨b, off, rfl, hcell⟩ := hc.resolve_left (by intro e; rw [e] at hm; simp at hm; omega)
    obtain ⟨g, cap', w', hr, h2, h3, h4, h5⟩ := run_append_lies (P := Try.prog) w 28 o.type B 3 i0 _ 1 8 Try.underlying28 hi hz0 hz1 hz2 rfl (by decide) _ 0 [] hown ⟨b, off, none⟩ m c' _ hlen
      (by
        intro j u hu
        have hj : j < m := by have := (List.getElem?_eq_some_iff.1 hu).1; simp at this; omega
        rw [List.getElem?_eq_getElem (by simp; omega)] at hu
        simp only [List.getElem_map, List.getElem_take, Option.some.injEq] at hu
        subst hu
        rw [Go.WideShapes.add_plain]
        exact hcell j (by omega)) (by intro u hu; obtain ⟨z, -, rfl⟩ := List.mem_map.1 hu; rfl) hpos (by unfold maxLen; omega) (by omega) (by omega) w.heap.size rfl
    unfold Oper.wp execOp
    simp only [ho, resolve, invoke, builtin, Sem.run_bind, Sem.run_pure, Result.andThen_ok, List.map_toArray, List.map_cons, List.map_nil, hs, hx, hr, Nat.zero_add] at *
    refine hK _ _ (h g cap' w' (by rw [celI_map]; simpa using h2) ⟨h3.os, h3.tape, h3.output, h3.size, fun k hk => h3.block k (by omega) ?_⟩)
    simp [Value.ownBlock]
    omega

end Go.Proofs.Ythdhlocoiipbaaa
