/-
  Whole rows stored, and cells of a row. Nothing is asked.
-/
import Derived.Test.YtbeoihjfjkbfhaaRp
import Derived.Test.YtbeoihjfjkbfhaaSl
import Derived.Test.YtbeoihjfjkbfhaaDrn
import Derived.Laws.Rows
import Derived.Laws.CopyRow
import Derived.Laws.CopyOwn
namespace Go.Proofs.Ytbeoihjfjkbfhaa
set_option linter.unusedVariables false
set_option linter.unusedSimpArgs false
open Go.RowKit

def iof : Value → Int
  | .int _ z => z
  | _ => 0
theorem heap_setCell_row {w : World} {g o : Nat} {cs : Array Value} {t : TypeId} {fr : Nat × Nat} (v : Value) (hg : w.heap[g]? = some (.cells cs t fr)) : (w.setCell ⟨g, o, none⟩ v).heap[g]? = some (.cells (cs.setIfInBounds o v) t fr) := by
  have hlt := (Array.getElem?_eq_some_iff.1 hg).1
  simp [World.setCell, Array.getElem?_modify, hg]
theorem heap_setCell_other {w : World} {g k o : Nat} (v : Value) (h : k ≠ g) : (w.setCell ⟨g, o, none⟩ v).heap[k]? = w.heap[k]? := RowKit.Below.heap_setCell _ _ _ _ h
theorem alloc_at (w : World) (o : Obj) : (w.alloc o).heap[w.heap.size]? = some o := by show (w.heap.push o)[w.heap.size]? = _; simp
theorem alloc_old {w : World} (o : Obj) {k : Nat} (h : k < w.heap.size) : (w.alloc o).heap[k]? = w.heap[k]? := Below.heap_alloc w o k h
theorem two_blocks (w : World) (o1 o2 : Obj) : ((w.alloc o1).alloc o2).heap[w.heap.size]? = some o1 ∧ ((w.alloc o1).alloc o2).heap[w.heap.size + 1]? = some o2 := by
  refine ⟨by rw [alloc_old _ (by simp), alloc_at], ?_⟩
  have := alloc_at (w.alloc o1) o2
  simpa using this
end Go.Proofs.Ytbeoihjfjkbfhaa
