/-
  The arguments of the laws of chapter 20, opened: slices of rows of ints, bytes, arrays. Nothing is asked.
-/
import Derived.Test.YthdhlocoiipbaaaLawR
import Derived.Test.YthdhlocoiipbaaaFlD
namespace Go.Proofs.Ythdhlocoiipbaaa
set_option linter.unusedVariables false
set_option linter.unusedSimpArgs false
open Go.RowKit Go.WideShapes Go.ChangeShapes
set_option maxRecDepth 100000

section
variable {H : Type} {enc : TypeId × Value → H} {W : World}
theorem k22 : Try.prog.cellsOf 22 = 1 := by kernel_rfl
theorem k34 : Try.prog.cellsOf 34 = 1 := by kernel_rfl
theorem k35 : Try.prog.cellsOf 35 = 3 := by kernel_rfl
theorem k59 : Try.prog.cellsOf 59 = 5 := by kernel_rfl
theorem k43 : Try.prog.cellsOf 43 = 2 := by kernel_rfl
theorem k50 : Try.prog.cellsOf 50 = 2 := by kernel_rfl
theorem k5 : Try.prog.cellsOf 5 = 1 := by kernel_rfl
theorem u8_of_wf {n : Int} (h : (Lit.int .u8 n).wf = true) : 0 ≤ n ∧ n ≤ 255 := by
  simpa [Lit.wf, IntKind.min, IntKind.max, IntKind.signed, IntKind.bits] using h
open Classical in
theorem rows_RA {m : Nat} {A : Option Addr} {len cap : Nat} (hl : len ≤ maxLen) (h : len = 0 ∨ ∃ b off, A = some ⟨b, off, none⟩ ∧ ∀ i, i < len → ∀ j, j < m → ∃ n, W.cell? ⟨b, off + i * m + j, none⟩ = some (.int .i64 n) ∧ (Lit.int .i64 n).wf = true) :
    ∃ f, RA m W (.slice A len cap) f len := by
  unfold maxLen at hl
  rcases h with rfl | ⟨b, off, rfl, h⟩
  · exact ⟨fun _ _ => 0, _, _, rfl, by omega, fun _ _ => (⟨by decide, by decide⟩ : OkI 0), .inl rfl⟩
  · refine ⟨fun i j => if hh : ∃ n, W.cell? ⟨b, off + i * m + j, none⟩ = some (.int .i64 n) ∧ (Lit.int .i64 n).wf = true then Classical.choose hh else 0, _, _, rfl, by omega, fun i j => ?_, .inr ⟨b, off, rfl, fun i hi j hj => ?_⟩⟩
    · dsimp only
      split
      · rename_i hh
        exact i64_of_wf (Classical.choose_spec hh).2
      · exact (⟨by decide, by decide⟩ : OkI 0)
    · dsimp only
      rw [dif_pos (h i hi j hj)]
      exact (Classical.choose_spec (h i hi j hj)).1
theorem open_RA3 {r : Go.Reach} {b0 : Nat} {v : Value} {d : DataW H} {ps : List MemPlace} (hval : Value.okWide Try.prog W r b0 22 v) (hd : DataW.Trod enc Try.prog W 0 (fun _ => true) true 22 v d ps) : ∃ f n, RA 3 W v f n := by
  obtain ⟨fuel, hf⟩ := hd
  obtain ⟨a, l, c, rfl⟩ := okWide_slice Try.underlying22 hval
  obtain ⟨A, len, cap, hcs, hl, h⟩ := slice_rows Try.underlying22 Try.underlying35 Try.underlying3 cells3 k35 (by decide) hf
  simp [Value.cells] at hcs
  obtain ⟨rfl, rfl, rfl⟩ := hcs
  obtain ⟨f, hr⟩ := rows_RA (cap := c) hl h
  exact ⟨f, _, hr⟩
theorem open_RA5 {r : Go.Reach} {b0 : Nat} {v : Value} {d : DataW H} {ps : List MemPlace} (hval : Value.okWide Try.prog W r b0 34 v) (hd : DataW.Trod enc Try.prog W 0 (fun _ => true) true 34 v d ps) : ∃ f n, RA 5 W v f n := by
  obtain ⟨fuel, hf⟩ := hd
  obtain ⟨a, l, c, rfl⟩ := okWide_slice Try.underlying34 hval
  obtain ⟨A, len, cap, hcs, hl, h⟩ := slice_rows Try.underlying34 Try.underlying59 Try.underlying3 cells3 k59 (by decide) hf
  simp [Value.cells] at hcs
  obtain ⟨rfl, rfl, rfl⟩ := hcs
  obtain ⟨f, hr⟩ := rows_RA (cap := c) hl h
  exact ⟨f, _, hr⟩
end
end Go.Proofs.Ythdhlocoiipbaaa
