/-
  Lemmas of this claim (Base). Nothing is asked.
-/
import Derived.Test.YteomcpplajeidaaGreatRows
import Derived.WalkKit
import Derived.WalkSpells
import Derived.WalkLawsBesides
import Derived.Deep.QuietTactic
import Derived.BigQuiet
import Derived.Deep.RegionHeld3
import Derived.Lib.Hide
import Derived.BigRegion
import Derived.Shelf.Spec.BitsCarry
import Derived.Lib.Mul64
import Derived.Deep.DeepCutAuto
namespace Go.Proofs.YteomcpplajeidaaGreat
set_option linter.unusedVariables false
set_option linter.unusedSimpArgs false
set_option maxRecDepth 100000
open Go.RowKit
abbrev Ext (w w' : World) : Prop := Below w.heap.size w w'
section
variable {a w w' : World}
theorem Ext.refl (w : World) : Ext w w := Below.refl _ _
theorem Ext.drew (h : Ext a w) : Ext a w.drew := Below.drew h
theorem Ext.drewN (h : Ext a w) (n : Nat) : Ext a (w.drewN n) := ⟨h.os, h.tape, h.output, h.size, h.block⟩
theorem Ext.alloc (h : Ext a w) (o : Obj) : Ext a (w.alloc o) := Below.alloc h h.size o
theorem Ext.setCell (h : Ext a w) {p : Addr} (hp : a.heap.size ≤ p.block) (u : Value) : Ext a (w.setCell p u) := Below.setCell h hp u
theorem Ext.trans (h : Ext a w) (k : Ext w w') : Ext a w' := Below.trans h (k.mono h.size)
theorem Ext.cells (h : Ext a w) : (∀ b o, b < a.heap.size → w.cell? ⟨b, o, none⟩ = a.cell? ⟨b, o, none⟩) ∧ (∀ b o, b < a.heap.size → w.frozen? ⟨b, o, none⟩ = a.frozen? ⟨b, o, none⟩) :=
  ⟨fun b o hb => Below.cell (p := ⟨b, o, none⟩) h hb, fun b o hb => Below.frozen (p := ⟨b, o, none⟩) h hb⟩
end
end Go.Proofs.YteomcpplajeidaaGreat
