/-
  digest.Sum. Condition: the string has at most 4000 bytes.
-/
import Derived.Test.YtbeoihjfjkbfhaaShG
namespace Go.Proofs.Ytbeoihjfjkbfhaa
set_option linter.unusedVariables false
set_option linter.unusedSimpArgs false
open Go.RowKit Go.Shelf
theorem wp_append_run2 {P : Program} (w : World) {o : Oper} {a : Act} {K : Act → World → Prop} {Q : Exit → Act → World → Prop} (s x : Operand) (t u : TypeId)
    (ho : o.op = .call { callee := .builtin .append, args := #[s, x], argTypes := #[t, u] }) (v y : Value) (hs : a.eval s = v) (hx : a.eval x = y) {v' : Value} {w' : World}
    (hr : (Builtin.append_ #[t, u] o.type #[v, y]).run P w = .ok v' w') (h : K (a.put o.dst v') w') : o.wp P a w K Q := by
  unfold Oper.wp execOp
  simp only [ho, resolve, invoke, builtin, Sem.run_bind, Sem.run_pure, Result.andThen_ok, List.map_toArray, List.map_cons, List.map_nil, hs, hx, hr]
  exact h
theorem wpList_append_run2 {P : Program} (w : World) {ops : Array Oper} {rest : List Oper} {o : Oper} {a : Act} {Q : Exit → Act → World → Prop} (hgd : o.guard = none) (s x : Operand) (t u : TypeId)
    (ho : o.op = .call { callee := .builtin .append, args := #[s, x], argTypes := #[t, u] }) (v y : Value) (hs : a.eval s = v) (hx : a.eval x = y) {v' : Value} {w' : World}
    (hr : (Builtin.append_ #[t, u] o.type #[v, y]).run P w = .ok v' w') (h : wpList P ops Q rest (a.put o.dst v') w') : wpList P ops Q (o :: rest) a w :=
  wpList_plain hgd fun _ hK => wp_append_run2 w s x t u ho v y hs hx hr (hK _ _ h)
theorem BY.ext {B : Nat} {w w' : World} {v : Value} {l : List Int} (h : BY B w v l) (x : Ext w w') : BY B w' v l := by
  obtain ⟨g, cap, cur, fr, e, h1, h2, h3⟩ := h
  exact ⟨g, cap, cur, fr, e, h1, (x.block _ (Rg.lt_of_heap h2)).trans h2, h3⟩
theorem BY.form {B : Nat} {w : World} {v : Value} {l : List Int} (h : BY B w v l) : ∃ g cap, v = .slice (some ⟨g, 0, none⟩) l.length cap := by
  obtain ⟨g, cap, -, -, e, -⟩ := h
  exact ⟨g, cap, e⟩
end Go.Proofs.Ytbeoihjfjkbfhaa
