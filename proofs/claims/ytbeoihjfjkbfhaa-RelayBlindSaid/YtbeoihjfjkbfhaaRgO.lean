/-
  A loop over a map, or over none. Nothing is asked.
-/
import Derived.Test.YtbeoihjfjkbfhaaReD
namespace Go.Proofs.Ytbeoihjfjkbfhaa
set_option linter.unusedVariables false
set_option linter.unusedSimpArgs false
open Go.RowKit

section
variable {κ : Type} {enc : κ → Value} {good : κ → Prop} {w w' : World} {o : Option Nat} {r : Nat} {m left : List (κ × Value)}
/-- A map, or none, of the pairs m. -/
def MPO (enc : κ → Value) (good : κ → Prop) (w : World) (o : Option Nat) (m : List (κ × Value)) : Prop := match o with | none => m = [] | some b => MP enc good w b m
/-- A loop over a map, or over none. -/
def RGO (enc : κ → Value) (good : κ → Prop) (w : World) (o : Option Nat) (r : Nat) (m left : List (κ × Value)) : Prop := match o with | none => left = [] ∧ w.heap[r]? = some (.mapIter none 0 #[] 0) | some b => RG enc good w b r m left
theorem RGO.lt (h : RGO enc good w o r m left) : r < w.heap.size := by
  cases o with
  | none => exact (Array.getElem?_eq_some_iff.1 h.2).1
  | some b => exact RG.lt h
theorem RGO.ext (h : RGO enc good w o r m left) (e : Ext w w') : RGO enc good w' o r m left := by
  cases o with
  | none => exact ⟨h.1, (e.block _ (Array.getElem?_eq_some_iff.1 h.2).1).trans h.2⟩
  | some b => exact RG.ext h e
theorem RGO.kept {row : Option Nat} (h : RGO enc good w o r m left) (x : w.grownBy w' row) (hb : ∀ b, o = some b → some b ≠ row) (hr : some r ≠ row) : RGO enc good w' o r m left := by
  cases o with
  | none => exact ⟨h.1, (x.block r (Array.getElem?_eq_some_iff.1 h.2).1 hr).trans h.2⟩
  | some b => exact RG.kept h x (hb b rfl) hr
variable {ops : Array Oper} {rest : List Oper} {op : Oper} {a : Act} {Q : Exit → Act → World → Prop} {P : Program}
theorem wpList_rangeO (hg : op.guard = none) (x : Operand) (t : TypeId) (hop : op.op = Op.range t x) (k e : TypeId) (ht : P.underlying t = some (.map k e)) (o : Option Nat) (l : List (κ × Value)) (hm : a.eval x = .map o) (h : MPO enc good w o l)
    (hK : ∀ w', RGO enc good w' o w.heap.size l l → Ext w w' → w'.heap.size = w.heap.size + 1 → wpList P ops Q rest (a.put op.dst (.pointer (some ⟨w.heap.size, 0, none⟩))) w') : wpList P ops Q (op :: rest) a w := by
  cases o with
  | none =>
    refine wpList_plain hg fun K' hK' => ?_
    have hrun := run_range_nilMap (P := P) w t k e ht
    unfold Oper.wp
    simp [execOp, hop, hm, hrun, Result.andThen]
    exact hK' _ _ (hK _ ⟨h, heap_alloc_new w _⟩ (Ext.alloc (Ext.refl _) _) (by simp))
  | some b => exact wpList_range hg x t hop k e ht b l hm h hK
theorem wpList_nextO (hg : op.guard = none) (it : Operand) (hop : op.op = Op.next it false) (o : Option Nat) (r : Nat) (l left : List (κ × Value)) (hit : a.eval it = .pointer (some ⟨r, 0, none⟩)) (h : RGO enc good w o r l left)
    (hDone : left = [] → wpList P ops Q rest (a.put op.dst (.tuple #[.bool false])) w)
    (hMore : ∀ b pre x v post w', o = some b → left = pre ++ (x, v) :: post → RGO enc good w' o r l (pre ++ post) → w.grownBy w' (some r) → w'.heap.size = w.heap.size → (Instr.entry (.pointer (some ⟨r, 0, none⟩))).run P w' = .ok (.tuple #[enc x, v]) w' → w'.rangeLeft b r < w.rangeLeft b r → wpList P ops Q rest (a.put op.dst (.tuple #[.bool true, enc x, v])) w') : wpList P ops Q (op :: rest) a w := by
  cases o with
  | none =>
    refine wpList_plain hg fun K' hK' => ?_
    have hrun : (Instr.next (.pointer (some ⟨r, 0, none⟩)) false op.type).run P w = .ok (.tuple #[.bool false]) w := by
      simp only [Instr.next, getObj, Sem.run_bind, Sem.run, h.2, Result.andThen]
      rfl
    unfold Oper.wp
    simp [execOp, hop, hit, hrun, Result.andThen]
    exact hK' _ _ (hDone h.1)
  | some b =>
    refine wpList_next hg it hop b r l left hit h hDone (fun pre x v post w' h1 h2 h3 h4 h5 => hMore b pre x v post w' rfl h1 h2 h3 h4 h5 ?_)
    rw [RG.left_eq h2, RG.left_eq h, h1]
    simp
/-- How many entries are still to come. -/
def leftO (w : World) (o : Option Nat) (r : Nat) : Nat := match o with | none => 0 | some b => w.rangeLeft b r
end
theorem leftO_eq {κ : Type} {enc : κ → Value} {good : κ → Prop} {w : World} {o : Option Nat} {r : Nat} {m left : List (κ × Value)} (h : RGO enc good w o r m left) : leftO w o r = left.length := by
  cases o with
  | none => rw [h.1]; rfl
  | some b => exact RG.left_eq h
theorem RGO.good {κ : Type} {enc : κ → Value} {good : κ → Prop} {w : World} {o : Option Nat} {r : Nat} {m left : List (κ × Value)} (h : RGO enc good w o r m left) : ∀ p ∈ left, good p.1 := by
  cases o with
  | none => rw [h.1]; simp
  | some b => exact fun p hp => h.1.gd p (h.2.1 p hp)
theorem MPO.nodup {κ : Type} {enc : κ → Value} {good : κ → Prop} {w : World} {o : Option Nat} {m : List (κ × Value)} (h : MPO enc good w o m) : (m.map (·.1)).Nodup := by
  cases o with
  | none => rw [show m = [] from h]; exact List.Pairwise.nil
  | some b => exact MP.nodup h
theorem RGO.sub {κ : Type} {enc : κ → Value} {good : κ → Prop} {w : World} {o : Option Nat} {r : Nat} {m left : List (κ × Value)} (h : RGO enc good w o r m left) : ∀ p ∈ left, p ∈ m := by
  cases o with
  | none => rw [h.1]; simp
  | some b => exact fun p hp => h.2.1 p hp
theorem RGO.iter {κ : Type} {enc : κ → Value} {good : κ → Prop} {w : World} {o : Option Nat} {r : Nat} {m left : List (κ × Value)} (h : RGO enc good w o r m left) : ∃ a s q c, w.heap[r]? = some (.mapIter a s q c) := by
  cases o with
  | none => exact ⟨_, _, _, _, h.2⟩
  | some b =>
    obtain ⟨-, -, es, clock, since, seen, c0, hb, hr, -⟩ := h
    exact ⟨_, _, _, _, hr⟩
theorem in_rest {α : Type} {pre post : List α} {x y : α} (h : y ∈ pre ++ x :: post) (hne : y ≠ x) : y ∈ pre ++ post := by
  rcases List.mem_append.1 h with h | h
  · exact List.mem_append_left _ h
  · rcases List.mem_cons.1 h with h | h
    · exact absurd h hne
    · exact List.mem_append_right _ h
theorem perm_mid {α β : Type} (f : α → β) (pre post : List α) (x : α) (acc : List β) {t : List β} (h : (acc ++ (pre ++ x :: post).map f).Perm t) : ((acc ++ [f x]) ++ (pre ++ post).map f).Perm t := by
  refine List.Perm.trans ?_ h
  rw [List.append_assoc]
  refine List.Perm.append_left acc ?_
  rw [List.map_append, List.map_append, List.map_cons]
  exact (List.perm_middle (a := f x) (l₁ := pre.map f) (l₂ := post.map f)).symm
end Go.Proofs.Ytbeoihjfjkbfhaa
