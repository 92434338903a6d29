/-
  'append' with all that it leaves; rows of different types. Nothing is asked.
-/
import Derived.Test.YthdhlocoiipbaaaFlS
namespace Go.Proofs.Ythdhlocoiipbaaa
set_option linter.unusedVariables false
set_option linter.unusedSimpArgs false
open Go.RowKit

theorem append_g {α : Type} {cs : α → List Value} {sz : Nat} (T E bytes : Nat) {z : Value} (hT : Try.prog.underlying T = some (.slice E))
    (hinfo : (Try.prog.info? E).map (fun i => (i.zero, i.size, i.bytes)) = some (some z, sz, bytes)) (hz : z.cells.size = sz) (h0 : 0 < sz) (hby : bytes ≤ 100000)
    {ops : Array Oper} {rest : List Oper} {o : Oper} {a : Act} {Q : Exit → Act → World → Prop} {w : World} (hgd : o.guard = none) (s x : Operand)
    (ho : o.op = .call { callee := .builtin .append, args := #[s, x], argTypes := #[T, T] }) (B : Nat) (v : Value) (vs : List α) (hs : a.eval s = v) (hF : w.ownsRow B E sz v vs.length (vs.flatMap cs))
    (p : Nat) (u : α) (hl : (cs u).length = sz ∧ ∀ c ∈ cs u, c.oneCell' = true) (hx : a.eval x = .slice (some ⟨p, 0, none⟩) 1 1) (hp : w.heap[p]? = some (.cells (cs u).toArray E)) (hn : vs.length < 1000000) (hB : B ≤ w.heap.size)
    (h : ∀ g cap w', w'.ownsRow B E sz (.slice (some ⟨g, 0, none⟩) (vs.length + 1) cap) (vs ++ [u]).length ((vs ++ [u]).flatMap cs) → w.grownBy w' v.ownBlock → (v.ownBlock = some g ∨ g = w.heap.size) → wpList Try.prog ops Q rest (a.put o.dst (.slice (some ⟨g, 0, none⟩) (vs.length + 1) cap)) w') : wpList Try.prog ops Q (o :: rest) a w := by
  obtain ⟨i0, hi, hz0, hz1, hz2⟩ := info_parts hinfo
  refine wpList_append_lies w hgd s x T ho B E i0 _ sz bytes hT hi hz0 hz1 hz2 hz h0 v vs.length _ hs hF ⟨p, 0, none⟩ 1 1 (cs u) hx (by rw [hl.1, Nat.one_mul]) ?_ hl.2 (by decide) (by unfold maxLen; omega) ?_ hB w.heap.size rfl ?_
  · intro j c hc
    rw [addr_add, cell_of_row w p _ _ _ _ hp]
    simpa using hc
  · have : (vs.length + 1) * bytes ≤ 1000000 * 100000 := Nat.mul_le_mul (by omega) hby
    omega
  · intro g cap w' hw hg hat hlt
    refine h g cap w' ?_ hg hat
    rw [List.flatMap_append, List.length_append]
    simpa using hw

/-- A row's own block is a block of its type. -/
theorem row_block {B E sz n : Nat} {w : World} {v : Value} {xs : List Value} (h : w.ownsRow B E sz v n xs) {g : Nat} (hg : v.ownBlock = some g) : ∃ cs, w.heap[g]? = some (.cells cs E) := by
  rcases h.2 with ⟨rfl, -⟩ | ⟨g', cap, cur, rfl, hb, hc, -⟩
  · cases hg
  · cases hg
    exact ⟨_, hc⟩
theorem row_ne {B E sz n B' E' sz' n' : Nat} {w : World} {v v' : Value} {xs xs' : List Value} (h : w.ownsRow B E sz v n xs) (h' : w.ownsRow B' E' sz' v' n' xs') (hE : E ≠ E') : v.ownBlock = none ∨ v.ownBlock ≠ v'.ownBlock := by
  cases hg : v.ownBlock with
  | none => exact .inl rfl
  | some g =>
    refine .inr fun e => ?_
    obtain ⟨cs, h1⟩ := row_block h hg
    obtain ⟨cs', h2⟩ := row_block h' e.symm
    rw [h1] at h2
    cases h2
    exact hE rfl
theorem grown_ext {w0 w w' : World} {v : Value} {B E sz n : Nat} {xs : List Value} (h : Ext w0 w) (hr : w.ownsRow B E sz v n xs) (hB : w0.heap.size ≤ B) (hg : w.grownBy w' v.ownBlock) : Ext w0 w' :=
  Below.trans h ⟨hg.os, hg.tape, hg.output, hg.size, fun k hk => hg.block k (by have := h.size; omega) (fun e => by have := (hr.lt k e.symm).1; omega)⟩

end Go.Proofs.Ythdhlocoiipbaaa
