/-
  What a load of a whole block that is known gives, inside a region whose order is open. Nothing is asked.
-/
import Derived.Test.YtgkdeknfmmgbdaaLdL
import Derived.Laws.Rows
namespace Go.Proofs.Ytgkdeknfmmgbdaa
set_option linter.unusedVariables false
set_option linter.unusedSimpArgs false
open Go.RowKit

theorem up_row {ρ : Operand → Value} {d : Option Tmp} {x : Operand} {ty : TypeId} {ps : String} {af : Array Edge} {gd : Option (Nat × Bool)} {w : World} {g : Nat} {T t : TypeId} {cs : Array Value} {fs : Array Field} {fr : Nat × Nat}
    (hx : ρ x = .pointer (some ⟨g, 0, none⟩)) (hg : w.heap[g]? = some (.cells cs t fr))
    (hu : Try.prog.underlying T = some (.struct fs)) (hi : (Try.prog.info? T).map (·.size) = some cs.size) :
    Rg.up Try.prog w (.agg cs) ((execOp ρ { dst := d, op := .load T x, type := ty, pos := ps, after := af, guard := gd }).run Try.prog w) := by
  have h := run_loadVar_row (P := Try.prog) w g t T cs _ (.struct fs) hg hu rfl hi
  unfold execOp
  simp only [hx, Instr.loadAt, Instr.sureAddr, Sem.run_bind, Sem.run_pure, Result.andThen_ok, h]
  exact Rg.up_value
end Go.Proofs.Ytgkdeknfmmgbdaa
