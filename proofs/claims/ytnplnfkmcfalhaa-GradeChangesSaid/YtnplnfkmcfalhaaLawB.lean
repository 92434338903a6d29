/-
  Slices and arrays of bytes among the arguments, opened. Nothing is asked.
-/
import Derived.Test.YtnplnfkmcfalhaaLawG
import Derived.Test.YtnplnfkmcfalhaaLwA
import Derived.OpenShut
namespace Go.Proofs.Ytnplnfkmcfalhaa
set_option linter.unusedVariables false
set_option linter.unusedSimpArgs false
open Go.RowKit Go.WideShapes Go.ChangeShapes
set_option maxRecDepth 100000

section
variable {H : Type} {enc : TypeId × Value → H} {W : World}
theorem k5 : Try.prog.cellsOf 5 = 1 := by kernel_rfl
theorem u8_of_wf {n : Int} (h : (Lit.int .u8 n).wf = true) : 0 ≤ n ∧ n ≤ 255 := by
  simpa [Lit.wf, IntKind.min, IntKind.max, IntKind.signed, IntKind.bits] using h
theorem open_UA {r : Go.Reach} {b0 : Nat} {v : Value} {d : DataW H} {ps : List MemPlace} (hval : Value.okWide Try.prog W r b0 66 v) (hd : DataW.Trod enc Try.prog W 0 (fun _ => true) true 66 v d ps) : ∃ f n, UA W v f n := by
  obtain ⟨fuel, hf⟩ := hd
  obtain ⟨a, l, c, rfl⟩ := okWide_slice Try.underlying66 hval
  rcases open_ints Try.underlying66 Try.underlying5 k5 hf with ⟨h, -⟩ | ⟨a', len, cap, zs, h, -, hl, hm, hz, -, hc, hw⟩
  · simp [Value.cells] at h
    obtain ⟨rfl, rfl, rfl⟩ := h
    exact ⟨fun _ => 0, 0, none, 0, rfl, Nat.le_refl _, by decide, fun _ => (⟨by decide, by decide⟩ : (0:Int) ≤ 0 ∧ (0:Int) ≤ 255), .inl rfl⟩
  · simp [Value.cells] at h
    obtain ⟨rfl, rfl, rfl⟩ := h
    unfold maxLen at hm
    have hzc : l ≤ zs.length := by rw [hz]; simp; omega
    have hff : ∀ i, 0 ≤ zs.getD i 0 ∧ zs.getD i 0 ≤ 255 := fun i => by
      rcases Nat.lt_or_ge i zs.length with h | h
      · rw [List.getD_eq_getElem?_getD, List.getElem?_eq_getElem h]
        exact u8_of_wf (hw _ (List.getElem_mem _))
      · rw [List.getD_eq_getElem?_getD, List.getElem?_eq_none h]
        exact ⟨by decide, by decide⟩
    rcases Nat.eq_zero_or_pos l with rfl | hpos
    · exact ⟨fun i => zs.getD i 0, 0, _, _, rfl, hl, hm, hff, .inl rfl⟩
    · obtain ⟨b, off, rfl, hcell⟩ := ints_at hc (by omega)
      exact ⟨fun i => zs.getD i 0, l, _, _, rfl, hl, hm, hff, .inr ⟨b, off, rfl, fun i hi => hcell i (by omega)⟩⟩
end
end Go.Proofs.Ytnplnfkmcfalhaa
