/-
  What a load of a struct gives, stated once for each struct type. Nothing is asked.
-/
import Derived.Test.YtgkdeknfmmgbdaaEvW
namespace Go.Proofs.Ytgkdeknfmmgbdaa
set_option linter.unusedVariables false
set_option linter.unusedSimpArgs false
open Go.RowKit

section
variable {ρ : Operand → Value} {d : Option Tmp} {x : Operand} {ty : TypeId} {ps : String} {af : Array Edge} {gd : Option (Nat × Bool)} {w : World} {b o : Nat}
theorem up_load29 {c0 c1 c2 c3 c4 : Value} (hx : ρ x = .pointer (some ⟨b, o, none⟩)) (h0 : w.cell? ⟨b, o, none⟩ = some c0) (h1 : w.cell? ⟨b, o + 1, none⟩ = some c1) (h2 : w.cell? ⟨b, o + 2, none⟩ = some c2) (h3 : w.cell? ⟨b, o + 3, none⟩ = some c3) (h4 : w.cell? ⟨b, o + 4, none⟩ = some c4) :
    Rg.up Try.prog w (.agg #[c0, c1, c2, c3, c4]) ((execOp ρ { dst := d, op := .load 29 x, type := ty, pos := ps, after := af, guard := gd }).run Try.prog w) := by
  simp only [execOp, hx]
  go_simp
  exact Rg.up_value
theorem up_load26 {c0 c1 : Value} (hx : ρ x = .pointer (some ⟨b, o, none⟩)) (h0 : w.cell? ⟨b, o, none⟩ = some c0) (h1 : w.cell? ⟨b, o + 1, none⟩ = some c1) :
    Rg.up Try.prog w (.agg #[c0, c1]) ((execOp ρ { dst := d, op := .load 26 x, type := ty, pos := ps, after := af, guard := gd }).run Try.prog w) := by
  simp only [execOp, hx]
  go_simp
  exact Rg.up_value
theorem up_load117 {c0 c1 : Value} (hx : ρ x = .pointer (some ⟨b, o, none⟩)) (h0 : w.cell? ⟨b, o, none⟩ = some c0) (h1 : w.cell? ⟨b, o + 1, none⟩ = some c1) :
    Rg.up Try.prog w (.agg #[c0, c1]) ((execOp ρ { dst := d, op := .load 117 x, type := ty, pos := ps, after := af, guard := gd }).run Try.prog w) := by
  simp only [execOp, hx]
  go_simp
  exact Rg.up_value
end
end Go.Proofs.Ytgkdeknfmmgbdaa
