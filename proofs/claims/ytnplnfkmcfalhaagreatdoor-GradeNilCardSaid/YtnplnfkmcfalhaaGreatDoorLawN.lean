/-
  A grade and a number among the arguments, opened. Nothing is asked.
-/
import Derived.Test.YtnplnfkmcfalhaaGreatDoorLawG
import Derived.Test.YtnplnfkmcfalhaaGreatDoorGdA
import Derived.OpenShut
namespace Go.Proofs.YtnplnfkmcfalhaaGreatDoor
set_option linter.unusedVariables false
set_option linter.unusedSimpArgs false
open Go.RowKit Go.WideShapes Go.ChangeShapes
set_option maxRecDepth 100000

section
variable {H : Type} {enc : TypeId × Value → H} {W : World}
theorem gk3 : Tryz.prog.cellsOf 3 = 1 := by kernel_rfl
theorem gk9 : Tryz.prog.cellsOf 9 = 1 := by kernel_rfl
theorem gk23 : Tryz.prog.cellsOf 23 = 6 := by kernel_rfl
theorem lst6 {α : Type} : ∀ (l : List α), l.length = 6 → ∃ x0 x1 x2 x3 x4 x5, l = [x0, x1, x2, x3, x4, x5]
  | [x0, x1, x2, x3, x4, x5], _ => ⟨x0, x1, x2, x3, x4, x5, rfl⟩
theorem gOkWide {t : TypeId} {fs : Array Field} {r : Reach} {b0 : Nat} {v : Value} (ht : Tryz.prog.underlying t = some (.struct fs)) (h : Value.okWide Tryz.prog W r b0 t v) : ∃ cs, v = .agg cs ∧ cs.size = Tryz.prog.cellsOf t := by
  unfold Value.okWide at h
  rw [ht] at h
  obtain ⟨cs, h1, h2, -⟩ := h
  exact ⟨cs, h1, h2⟩
/-- The grade. -/
theorem open_gd {r : Go.Reach} {b0 : Nat} {v : Value} {d : DataW H} {ps : List MemPlace} (hval : Value.okWide Tryz.prog W r b0 23 v) (hd : DataW.Trod enc Tryz.prog W 0 (fun _ => true) true 23 v d ps) :
    ∃ g : Gd, v = g.v ∧ g.ok := by
  obtain ⟨fuel, hf⟩ := hd
  obtain ⟨cs, rfl, hsz⟩ := gOkWide Tryz.underlying23 hval
  rw [gk23] at hsz
  obtain ⟨c0, c1, c2, c3, c4, c5, hl⟩ := lst6 cs.toList (by simpa using hsz)
  obtain rfl : cs = #[c0, c1, c2, c3, c4, c5] := by cases cs; simp_all
  obtain ⟨xs, n, rfl, -, -, hx, hg⟩ := DataW.trod_struct Tryz.underlying23 hf
  have hx3 : xs.length = 6 := hx
  have some_of : ∀ i, i < 6 → ∃ y, xs[i]? = some y := fun i hi => ⟨_, List.getElem?_eq_getElem (by omega)⟩
  obtain ⟨y0, hy0⟩ := some_of 0 (by decide)
  obtain ⟨y1, hy1⟩ := some_of 1 (by decide)
  obtain ⟨y2, hy2⟩ := some_of 2 (by decide)
  obtain ⟨y3, hy3⟩ := some_of 3 (by decide)
  obtain ⟨y4, hy4⟩ := some_of 4 (by decide)
  obtain ⟨y5, hy5⟩ := some_of 5 (by decide)
  have f0 : DataW.trod enc Tryz.prog W 0 (fun _ => true) true n 3 (List.take (Tryz.prog.cellsOf 3) [c0, c1, c2, c3, c4, c5]) = xs[0]? := hg 0 _ rfl
  have f1 : DataW.trod enc Tryz.prog W 0 (fun _ => true) true n 3 (List.take (Tryz.prog.cellsOf 3) [c1, c2, c3, c4, c5]) = xs[1]? := hg 1 _ rfl
  have f2 : DataW.trod enc Tryz.prog W 0 (fun _ => true) true n 3 (List.take (Tryz.prog.cellsOf 3) [c2, c3, c4, c5]) = xs[2]? := hg 2 _ rfl
  have f3 : DataW.trod enc Tryz.prog W 0 (fun _ => true) true n 9 (List.take (Tryz.prog.cellsOf 9) [c3, c4, c5]) = xs[3]? := hg 3 _ rfl
  have f4 : DataW.trod enc Tryz.prog W 0 (fun _ => true) true n 3 (List.take (Tryz.prog.cellsOf 3) [c4, c5]) = xs[4]? := hg 4 _ rfl
  have f5 : DataW.trod enc Tryz.prog W 0 (fun _ => true) true n 3 (List.take (Tryz.prog.cellsOf 3) [c5]) = xs[5]? := hg 5 _ rfl
  rw [gk3, hy0] at f0
  rw [gk3, hy1] at f1
  rw [gk3, hy2] at f2
  rw [gk9, hy3] at f3
  rw [gk3, hy4] at f4
  rw [gk3, hy5] at f5
  obtain ⟨z0, e0, -, w0⟩ := DataW.trod_int Tryz.underlying3 f0
  obtain ⟨z1, e1, -, w1⟩ := DataW.trod_int Tryz.underlying3 f1
  obtain ⟨z2, e2, -, w2⟩ := DataW.trod_int Tryz.underlying3 f2
  obtain ⟨s3, e3, -, w3⟩ := DataW.trod_string Tryz.underlying9 f3
  obtain ⟨z4, e4, -, w4⟩ := DataW.trod_int Tryz.underlying3 f4
  obtain ⟨z5, e5, -, w5⟩ := DataW.trod_int Tryz.underlying3 f5
  simp only [List.take_succ_cons, List.take_zero, List.cons.injEq, and_true] at e0 e1 e2 e3 e4 e5
  subst e0 e1 e2 e3 e4 e5
  exact ⟨⟨z0, z1, z2, s3, z4, z5⟩, rfl, i64_of_wf w0, i64_of_wf w1, i64_of_wf w2, w3, i64_of_wf w4, i64_of_wf w5⟩
end
end Go.Proofs.YtnplnfkmcfalhaaGreatDoor
