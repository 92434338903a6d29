/-
  An item's Id and an item's origins written anew, in own rows. Nothing is asked.
-/
import Derived.Test.YthdhlocoiipbaaaFlX
import Derived.Test.YthdhlocoiipbaaaFlDj
namespace Go.Proofs.Ythdhlocoiipbaaa
set_option linter.unusedVariables false
set_option linter.unusedSimpArgs false
open Go.RowKit

theorem FewS.of_made {B N : Nat} {f : Nat → Nat → Int} {w : World} {v : Value} {xs : List It} (h : MadeS B N f w v xs) (hN : N ≤ 20) : FewS B w v xs ∧ ∀ x ∈ xs, x.frm.length ≤ 2 := by
  have hri := h.ri hN
  have hl : ∀ x ∈ xs, x.frm.length ≤ 2 := fun x hx => by
    obtain ⟨k, hk, rfl⟩ := List.getElem_of_mem hx
    have h1 := (h.2.2 k hk).1.2.2
    rw [h1]
    have := frmK_le N (f k) 3
    simpa [frmK, frmT] using this
  refine ⟨⟨h.1, fun x hx => ?_⟩, hl⟩
  have hg := hri.2 x hx
  have h5 := hl x hx
  obtain ⟨k, hk, rfl⟩ := List.getElem_of_mem hx
  obtain ⟨_, _, _, _, hz, _⟩ := hg.2.2
  exact ⟨hg.1, hg.2.1, hz, by omega, (h.2.2 k hk).2⟩

theorem FewS.set_id {B g cap : Nat} {w : World} {x0 : It} {rest : List It} {z : Int} (h : FewS B w (.slice (some ⟨g, 0, none⟩) (rest.length + 1) cap) (x0 :: rest)) (hz : OkI z) :
    FewS B (w.setCell ⟨g, 0, none⟩ (.int .i64 z)) (.slice (some ⟨g, 0, none⟩) (rest.length + 1) cap) (⟨z, x0.label, x0.fv, x0.frm⟩ :: rest) := by
  have hrow := (h.1.stored 0 (.int .i64 z)).1
  refine ⟨by simpa [It.cs] using hrow, fun x hx => ?_⟩
  have hk : ∀ y ∈ x0 :: rest, (w.setCell ⟨g, 0, none⟩ (.int .i64 z)).ownsRow B 3 1 y.fv y.frm.length (y.frm.flatMap celI) := fun y hy => World.ownsRow.kept (h.2 y hy).2.2.2.2 (grown_setCell w g 0 _) (row_ne (h.2 y hy).2.2.2.2 h.1 (by decide))
  rcases List.mem_cons.1 hx with rfl | hx
  · obtain ⟨a1, a2, a3, a4, a5⟩ := h.2 x0 List.mem_cons_self
    exact ⟨hz, a2, a3, a4, hk x0 List.mem_cons_self⟩
  · obtain ⟨a1, a2, a3, a4, a5⟩ := h.2 x (List.mem_cons_of_mem _ hx)
    exact ⟨a1, a2, a3, a4, hk x (List.mem_cons_of_mem _ hx)⟩

theorem FewS.set_frm {B g cap : Nat} {w w' : World} {x0 x1 : It} {rest : List It} {z : Int} {v' : Value} (h : FewS B w (.slice (some ⟨g, 0, none⟩) (rest.length + 2) cap) (x0 :: x1 :: rest)) (hd : DJ (x0 :: x1 :: rest)) (hz : OkI z) (hl : x1.frm.length ≤ 4)
    (hr : w'.ownsRow B 3 1 v' (x1.frm ++ [z]).length ((x1.frm ++ [z]).flatMap celI)) (hg : w.grownBy w' x1.fv.ownBlock) :
    FewS B (w'.setCell ⟨g, 5, none⟩ v') (.slice (some ⟨g, 0, none⟩) (rest.length + 2) cap) (x0 :: ⟨x1.id, x1.label, v', x1.frm ++ [z]⟩ :: rest) := by
  have hm1 : x1 ∈ x0 :: x1 :: rest := List.mem_cons_of_mem _ List.mem_cons_self
  have h1 := (h.2 x1 hm1).2.2.2.2
  have hrow' : w'.ownsRow B 32 3 (.slice (some ⟨g, 0, none⟩) (rest.length + 2) cap) (x0 :: x1 :: rest).length ((x0 :: x1 :: rest).flatMap It.cs) := World.ownsRow.kept h.1 hg (by
    rcases row_ne h1 h.1 (by decide) with e | e
    · refine .inr (by rw [e]; simp [Value.ownBlock])
    · exact .inr (fun q => e q.symm))
  have hrow := (hrow'.stored 5 v').1
  have hk : ∀ y ∈ x0 :: x1 :: rest, (y.fv.ownBlock = none ∨ y.fv.ownBlock ≠ x1.fv.ownBlock) → (w'.setCell ⟨g, 5, none⟩ v').ownsRow B 3 1 y.fv y.frm.length (y.frm.flatMap celI) := fun y hy hs => by
    have e1 := World.ownsRow.kept (h.2 y hy).2.2.2.2 hg hs
    exact World.ownsRow.kept e1 (grown_setCell w' g 5 _) (row_ne e1 hrow' (by decide))
  have hn : World.ownsRow (w'.setCell ⟨g, 5, none⟩ v') B 3 1 v' (x1.frm ++ [z]).length ((x1.frm ++ [z]).flatMap celI) := World.ownsRow.kept hr (grown_setCell w' g 5 _) (row_ne hr hrow' (by decide))
  unfold DJ at hd
  rw [List.pairwise_cons, List.pairwise_cons] at hd
  have hr0 : x0.fv.ownBlock = none ∨ x0.fv.ownBlock ≠ x1.fv.ownBlock := hd.1 x1 List.mem_cons_self
  have hrr : ∀ y ∈ rest, y.fv.ownBlock = none ∨ y.fv.ownBlock ≠ x1.fv.ownBlock := fun y hy => by
    cases ho : y.fv.ownBlock with
    | none => exact .inl rfl
    | some q =>
      refine .inr fun e => ?_
      rcases hd.2.1 y hy with e' | e'
      · rw [e'] at e; cases e
      · exact e' (e.symm.trans ho.symm)
  refine ⟨by simpa [It.cs] using hrow, fun x hx => ?_⟩
  rcases List.mem_cons.1 hx with rfl | hx
  · obtain ⟨a1, a2, a3, a4, a5⟩ := h.2 x List.mem_cons_self
    exact ⟨a1, a2, a3, a4, hk x List.mem_cons_self hr0⟩
  · rcases List.mem_cons.1 hx with rfl | hx
    · obtain ⟨a1, a2, a3, a4, a5⟩ := h.2 x1 hm1
      refine ⟨a1, a2, fun y hy => ?_, by simp; omega, hn⟩
      rcases List.mem_append.1 hy with hy | hy
      · exact a3 y hy
      · rw [List.mem_singleton] at hy
        subst hy
        exact hz
    · have hx' : x ∈ x0 :: x1 :: rest := List.mem_cons_of_mem _ (List.mem_cons_of_mem _ hx)
      obtain ⟨a1, a2, a3, a4, a5⟩ := h.2 x hx'
      exact ⟨a1, a2, a3, a4, hk x hx' (hrr x hx)⟩

end Go.Proofs.Ythdhlocoiipbaaa
