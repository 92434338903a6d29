/-
  The frame of a law over slices of ints: the arguments read afterwards as before, where the world has only grown. Nothing is asked.
-/
import Derived.Test.YtbeoihjfjkbfhaaPb
import Derived.ReadAgain
import Derived.ChangeSlices
import Derived.ChangeReads
import Derived.ChangeOld
namespace Go.Proofs.Ytbeoihjfjkbfhaa
set_option linter.unusedVariables false
set_option linter.unusedSimpArgs false
open Go.RowKit Go.WideShapes Go.ChangeShapes

theorem sameAt_below {w w' : World} (hb : Below w.heap.size w w') (p : MemPlace) (hp : p.block < w.heap.size) : w.sameAt w' p := by
  cases p with
  | cell b off => exact Below.cell (p := ⟨b, off, none⟩) hb hp
  | map b => exact hb.block b hp
section
variable {H : Type} {enc : TypeId × Value → H} {P : Program} {w w' : World} {base : Nat} {sp : Nat → Bool} {held : Bool}
theorem trodAll_below (hb : Below w.heap.size w w') : ∀ {ts : List TypeId} {vs : List Value} {ds : List (DataW H)} {ps : List MemPlace}, DataW.TrodAll enc P w base sp held ts vs ds ps → DataW.TrodAll enc P w' base sp held ts vs ds ps
  | [], [], [], _, h => h
  | t :: ts, v :: vs, d :: ds, ps, h => by
    obtain ⟨p, q, ⟨fuel, hp⟩, hq, e⟩ := h
    exact ⟨p, q, ⟨fuel, DataW.trod_carry fuel t _ _ hp fun x hx => sameAt_below hb x (DataW.trod_lt fuel t _ _ hp x hx)⟩, trodAll_below hb hq, e⟩
  | [], _ :: _, _, _, h => h.elim
  | [], [], _ :: _, _, h => h.elim
  | _ :: _, [], _, _, h => h.elim
  | _ :: _, _ :: _, [], _, h => h.elim
end

theorem kids : Kids Try.prog (· < Try.prog.types.size) := kids_rows (by kernel_rfl) (by kernel_rfl)
theorem full : ∀ t e, t < Try.prog.types.size → Try.prog.underlying t = some (.slice e) → 0 < Try.prog.cellsOf e := slices_full_of Try.prog (by kernel_rfl)
theorem own : ownKnob Try.prog.godebug = none := by kernel_rfl
theorem cells3 : Try.prog.cellsOf 3 = 1 := by kernel_rfl

end Go.Proofs.Ytbeoihjfjkbfhaa
