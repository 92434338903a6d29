/-
  The arguments of EvalSteep, opened: two slices of ints, two bytes, and a slice with its room. Nothing is asked.
-/
import Derived.Test.YtgkdeknfmmgbdaaLawR
namespace Go.Proofs.Ytgkdeknfmmgbdaa
set_option linter.unusedVariables false
set_option linter.unusedSimpArgs false
open Go.RowKit Go.WideShapes Go.ChangeShapes
set_option maxRecDepth 100000

section
variable {H : Type} {enc : TypeId × Value → H} {W : World}
theorem k22' : Try.prog.cellsOf 22 = 1 := by kernel_rfl
theorem k57 : Try.prog.cellsOf 57 = 2 := by kernel_rfl
theorem k58 : Try.prog.cellsOf 58 = 2 := by kernel_rfl
theorem k5 : Try.prog.cellsOf 5 = 1 := by kernel_rfl
theorem list2 {α : Type} (l : List α) (h : l.length = 2) : ∃ a b, l = [a, b] := by
  match l, h with
  | [a, b], _ => exact ⟨a, b, rfl⟩
theorem open_room {r : Reach} {b0 : Nat} {v : Value} {d : DataW H} {ps : List MemPlace} (hval : Value.okWide Try.prog W r b0 22 v) (hd : DataW.Trod enc Try.prog W 0 (fun _ => true) true 22 v d ps) :
    ∃ (ls : List Int) (A : Option Addr) (cap : Nat), v = .slice A ls.length cap ∧ ls.length ≤ cap ∧ cap ≤ 9223372036854775807 ∧ IRd W (.slice A ls.length cap) ls := by
  obtain ⟨fuel, hf⟩ := hd
  obtain ⟨a, l, c, rfl⟩ := okWide_slice Try.underlying22 hval
  obtain ⟨v, ls, hcs, hr⟩ := ird_of_trod hf
  have hcap : l ≤ c ∧ c ≤ maxLen := by
    rcases open_ints Try.underlying22 Try.underlying3 cells3 hf with ⟨h, -⟩ | ⟨a', len, cap, zs, h, -, hl, hm, -⟩
    · simp [Value.cells] at h; obtain ⟨-, h2, h3⟩ := h; subst h2 h3; exact ⟨Nat.le_refl _, by unfold maxLen; omega⟩
    · simp [Value.cells] at h; obtain ⟨-, h2, h3⟩ := h; subst h2 h3; exact ⟨hl, hm⟩
  simp [Value.cells] at hcs
  subst hcs
  obtain ⟨A', cap', hform, h2, h3⟩ := id hr
  injection hform with e1 e2 e3
  subst e1 e2 e3
  exact ⟨ls, _, _, rfl, hcap.1, by have := hcap.2; unfold maxLen at this; omega, hr⟩
theorem open_two {r : Reach} {b0 : Nat} {v : Value} {d : DataW H} {ps : List MemPlace} (hval : Value.okWide Try.prog W r b0 57 v) (hd : DataW.Trod enc Try.prog W 0 (fun _ => true) true 57 v d ps) :
    ∃ (l0 l1 : List Int) (A0 A1 : Option Addr) (c0 c1 : Nat), v = .agg #[.slice A0 l0.length c0, .slice A1 l1.length c1] ∧ IRd W (.slice A0 l0.length c0) l0 ∧ IRd W (.slice A1 l1.length c1) l1 := by
  obtain ⟨fuel, hf⟩ := hd
  obtain ⟨cs, rfl, hsz⟩ := okWide_array Try.underlying57 hval
  rw [k57] at hsz
  obtain ⟨x0, x1, hl⟩ := list2 cs.toList (by simpa using hsz)
  obtain rfl : cs = #[x0, x1] := by cases cs; simp_all
  obtain ⟨n, -, hp⟩ := arr_parts Try.underlying57 (by rw [k57, k22']) hf
  rw [k22'] at hp
  obtain ⟨y0, f0⟩ := hp 0 (by decide)
  obtain ⟨y1, f1⟩ := hp 1 (by decide)
  have f0' : DataW.trod enc Try.prog W 0 (fun _ => true) true n 22 [x0] = some y0 := f0
  have f1' : DataW.trod enc Try.prog W 0 (fun _ => true) true n 22 [x1] = some y1 := f1
  obtain ⟨v0, l0, e0, r0⟩ := ird_of_trod f0'
  obtain ⟨v1, l1, e1, r1⟩ := ird_of_trod f1'
  simp only [List.cons.injEq, and_true] at e0 e1
  subst e0 e1
  obtain ⟨A0, c0, h0, -⟩ := id r0
  obtain ⟨A1, c1, h1, -⟩ := id r1
  subst h0 h1
  exact ⟨l0, l1, A0, A1, c0, c1, rfl, r0, r1⟩
theorem u8_of_wf {n : Int} (h : (Lit.int .u8 n).wf = true) : 0 ≤ n ∧ n ≤ 255 := by
  simpa [Lit.wf, IntKind.min, IntKind.max, IntKind.signed, IntKind.bits] using h
theorem open_bytes2 {r : Reach} {b0 : Nat} {v : Value} {d : DataW H} {ps : List MemPlace} (hval : Value.okWide Try.prog W r b0 58 v) (hd : DataW.Trod enc Try.prog W 0 (fun _ => true) true 58 v d ps) :
    ∃ q0 q1 : Int, v = .agg #[.int .u8 q0, .int .u8 q1] ∧ (0 ≤ q0 ∧ q0 ≤ 255) ∧ 0 ≤ q1 ∧ q1 ≤ 255 := by
  obtain ⟨fuel, hf⟩ := hd
  obtain ⟨cs, rfl, hsz⟩ := okWide_array Try.underlying58 hval
  rw [k58] at hsz
  obtain ⟨x0, x1, hl⟩ := list2 cs.toList (by simpa using hsz)
  obtain rfl : cs = #[x0, x1] := by cases cs; simp_all
  obtain ⟨h1, h2⟩ := arr_ints Try.underlying58 Try.underlying5 k5 k58 hf
  obtain ⟨q0, e0, w0⟩ := h2 0 (by decide)
  obtain ⟨q1, e1, w1⟩ := h2 1 (by decide)
  replace e0 : some x0 = some (Value.int .u8 q0) := e0
  replace e1 : some x1 = some (Value.int .u8 q1) := e1
  injection e0 with e0
  injection e1 with e1
  subst e0 e1
  exact ⟨q0, q1, rfl, u8_of_wf w0, u8_of_wf w1⟩
end
end Go.Proofs.Ytgkdeknfmmgbdaa
