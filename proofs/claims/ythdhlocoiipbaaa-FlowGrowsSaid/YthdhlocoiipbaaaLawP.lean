/-
  Arrays of ints and of bytes among the arguments of the laws of chapter 20, opened. Nothing is asked.
-/
import Derived.Test.YthdhlocoiipbaaaLawO
namespace Go.Proofs.Ythdhlocoiipbaaa
set_option linter.unusedVariables false
set_option linter.unusedSimpArgs false
open Go.RowKit Go.WideShapes Go.ChangeShapes
set_option maxRecDepth 100000

section
variable {H : Type} {enc : TypeId × Value → H} {W : World}
theorem lst2 {α : Type} : ∀ (l : List α), l.length = 2 → ∃ x y, l = [x, y]
  | [x, y], _ => ⟨x, y, rfl⟩
theorem lst3 {α : Type} : ∀ (l : List α), l.length = 3 → ∃ x y z, l = [x, y, z]
  | [x, y, z], _ => ⟨x, y, z, rfl⟩
theorem open_arr3 {r : Go.Reach} {b0 : Nat} {v : Value} {d : DataW H} {ps : List MemPlace} (hval : Value.okWide Try.prog W r b0 35 v) (hd : DataW.Trod enc Try.prog W 0 (fun _ => true) true 35 v d ps) :
    ∃ q0 q1 q2 : Int, v = .agg #[.int .i64 q0, .int .i64 q1, .int .i64 q2] ∧ OkI q0 ∧ OkI q1 ∧ OkI q2 := by
  obtain ⟨fuel, hf⟩ := hd
  obtain ⟨cs, rfl, hsz⟩ := okWide_array Try.underlying35 hval
  rw [k35] at hsz
  obtain ⟨x0, x1, x2, hl⟩ := lst3 cs.toList (by simpa using hsz)
  obtain rfl : cs = #[x0, x1, x2] := by cases cs; simp_all
  obtain ⟨h1, h2⟩ := arr_ints Try.underlying35 Try.underlying3 cells3 k35 hf
  obtain ⟨q0, e0, w0⟩ := h2 0 (by decide)
  obtain ⟨q1, e1, w1⟩ := h2 1 (by decide)
  obtain ⟨q2, e2, w2⟩ := h2 2 (by decide)
  replace e0 : some x0 = some (Value.int .i64 q0) := e0
  replace e1 : some x1 = some (Value.int .i64 q1) := e1
  replace e2 : some x2 = some (Value.int .i64 q2) := e2
  injection e0 with e0
  injection e1 with e1
  injection e2 with e2
  subst e0 e1 e2
  exact ⟨q0, q1, q2, rfl, i64_of_wf w0, i64_of_wf w1, i64_of_wf w2⟩
theorem open_arr2 {r : Go.Reach} {b0 : Nat} {v : Value} {d : DataW H} {ps : List MemPlace} (hval : Value.okWide Try.prog W r b0 43 v) (hd : DataW.Trod enc Try.prog W 0 (fun _ => true) true 43 v d ps) :
    ∃ q0 q1 : Int, v = .agg #[.int .i64 q0, .int .i64 q1] ∧ OkI q0 ∧ OkI q1 := by
  obtain ⟨fuel, hf⟩ := hd
  obtain ⟨cs, rfl, hsz⟩ := okWide_array Try.underlying43 hval
  rw [k43] at hsz
  obtain ⟨x0, x1, hl⟩ := lst2 cs.toList (by simpa using hsz)
  obtain rfl : cs = #[x0, x1] := by cases cs; simp_all
  obtain ⟨h1, h2⟩ := arr_ints Try.underlying43 Try.underlying3 cells3 k43 hf
  obtain ⟨q0, e0, w0⟩ := h2 0 (by decide)
  obtain ⟨q1, e1, w1⟩ := h2 1 (by decide)
  replace e0 : some x0 = some (Value.int .i64 q0) := e0
  replace e1 : some x1 = some (Value.int .i64 q1) := e1
  injection e0 with e0
  injection e1 with e1
  subst e0 e1
  exact ⟨q0, q1, rfl, i64_of_wf w0, i64_of_wf w1⟩
theorem open_bytes2 {r : Go.Reach} {b0 : Nat} {v : Value} {d : DataW H} {ps : List MemPlace} (hval : Value.okWide Try.prog W r b0 50 v) (hd : DataW.Trod enc Try.prog W 0 (fun _ => true) true 50 v d ps) :
    ∃ q0 q1 : Int, v = .agg #[.int .u8 q0, .int .u8 q1] ∧ (0 ≤ q0 ∧ q0 ≤ 255) ∧ 0 ≤ q1 ∧ q1 ≤ 255 := by
  obtain ⟨fuel, hf⟩ := hd
  obtain ⟨cs, rfl, hsz⟩ := okWide_array Try.underlying50 hval
  rw [k50] at hsz
  obtain ⟨x0, x1, hl⟩ := lst2 cs.toList (by simpa using hsz)
  obtain rfl : cs = #[x0, x1] := by cases cs; simp_all
  obtain ⟨h1, h2⟩ := arr_ints Try.underlying50 Try.underlying5 k5 k50 hf
  obtain ⟨q0, e0, w0⟩ := h2 0 (by decide)
  obtain ⟨q1, e1, w1⟩ := h2 1 (by decide)
  replace e0 : some x0 = some (Value.int .u8 q0) := e0
  replace e1 : some x1 = some (Value.int .u8 q1) := e1
  injection e0 with e0
  injection e1 with e1
  subst e0 e1
  exact ⟨q0, q1, rfl, u8_of_wf w0, u8_of_wf w1⟩
end
end Go.Proofs.Ythdhlocoiipbaaa
