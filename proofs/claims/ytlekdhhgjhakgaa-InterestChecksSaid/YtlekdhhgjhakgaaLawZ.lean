/-
  Arrays of ints, and rows of them, among the arguments of the laws of chapter 18, opened. Nothing is asked.
-/
import Derived.Test.YtlekdhhgjhakgaaLawY
namespace Go.Proofs.Ytlekdhhgjhakgaa
set_option linter.unusedVariables false
set_option linter.unusedSimpArgs false
open Go.RowKit Go.WideShapes Go.ChangeShapes
set_option maxRecDepth 100000
theorem kk57 : Try.prog.cellsOf 57 = 3 := by kernel_rfl
section
variable {H : Type} {enc : TypeId × Value → H} {W : World}
theorem lst4 {α : Type} : ∀ (l : List α), l.length = 4 → ∃ x y z t, l = [x, y, z, t]
  | [x, y, z, t], _ => ⟨x, y, z, t, rfl⟩
theorem open_arr4 {r : Go.Reach} {b0 : Nat} {v : Value} {d : DataW H} {ps : List MemPlace} (hval : Value.okWide Try.prog W r b0 38 v) (hd : DataW.Trod enc Try.prog W 0 (fun _ => true) true 38 v d ps) :
    ∃ q0 q1 q2 q3 : Int, v = .agg #[.int .i64 q0, .int .i64 q1, .int .i64 q2, .int .i64 q3] ∧ OkI q0 ∧ OkI q1 ∧ OkI q2 ∧ OkI q3 := by
  obtain ⟨fuel, hf⟩ := hd
  obtain ⟨cs, rfl, hsz⟩ := okWide_array Try.underlying38 hval
  rw [kk38] at hsz
  obtain ⟨x0, x1, x2, x3, hl⟩ := lst4 cs.toList (by simpa using hsz)
  obtain rfl : cs = #[x0, x1, x2, x3] := by cases cs; simp_all
  obtain ⟨h1, h2⟩ := arr_ints Try.underlying38 Try.underlying3 kk3 kk38 hf
  obtain ⟨q0, e0, w0⟩ := h2 0 (by decide)
  obtain ⟨q1, e1, w1⟩ := h2 1 (by decide)
  obtain ⟨q2, e2, w2⟩ := h2 2 (by decide)
  obtain ⟨q3, e3, w3⟩ := h2 3 (by decide)
  replace e0 : some x0 = some (Value.int .i64 q0) := e0
  replace e1 : some x1 = some (Value.int .i64 q1) := e1
  replace e2 : some x2 = some (Value.int .i64 q2) := e2
  replace e3 : some x3 = some (Value.int .i64 q3) := e3
  injection e0 with e0
  injection e1 with e1
  injection e2 with e2
  injection e3 with e3
  subst e0 e1 e2 e3
  exact ⟨q0, q1, q2, q3, rfl, i64_of_wf w0, i64_of_wf w1, i64_of_wf w2, i64_of_wf w3⟩
theorem slice_rows {t e e2 : TypeId} {m : Nat} {k : IntKind} {fuel : Nat} {cs : List Value} {x : DataW H × List MemPlace} (ht : Try.prog.underlying t = some (.slice e)) (hte : Try.prog.underlying e = some (.array m e2)) (he : Try.prog.underlying e2 = some (.int k)) (hc : Try.prog.cellsOf e2 = 1) (hct : Try.prog.cellsOf e = m) (hm : 0 < m)
    (h : DataW.trod enc Try.prog W 0 (fun _ => true) true fuel t cs = some x) :
    ∃ A len cap, cs = [.slice A len cap] ∧ len ≤ maxLen ∧ (len = 0 ∨ ∃ b off, A = some ⟨b, off, none⟩ ∧ ∀ i, i < len → ∀ j, j < m → ∃ n, W.cell? ⟨b, off + i * m + j, none⟩ = some (.int k n) ∧ (Lit.int k n).wf = true) := by
  rcases DataW.trod_slice ht h with ⟨rfl, -⟩ | ⟨a, len, cap, elems, rest, n, -, rfl, -, -, hl, hmx, hlen, hel, -, -⟩
  · exact ⟨none, 0, 0, rfl, Nat.zero_le _, .inl rfl⟩
  · refine ⟨some a, len, cap, rfl, by omega, ?_⟩
    rcases Nat.eq_zero_or_pos len with h0 | h0
    · exact .inl h0
    · have key : ∀ i, i < len → ∀ j, j < m → ∃ z, W.cell? ((a.add (i * m)).add j) = some (.int k z) ∧ (Lit.int k z).wf = true := by
        intro i hi j hj
        have h1 := hel i hi
        rw [List.getElem?_eq_getElem (by omega)] at h1
        obtain ⟨ecs, h2, h3⟩ := Option.bind_eq_some_iff.1 h1
        obtain ⟨h4, h5⟩ := arr_ints hte he hc hct h3
        obtain ⟨z, h6, h7⟩ := h5 j hj
        have := (World.cells?_some h2).2.2 j (by rw [hct]; exact hj)
        rw [hct] at this
        exact ⟨z, by rw [this, h6], h7⟩
      obtain ⟨b, off, spot⟩ := a
      obtain ⟨z0, hz0, -⟩ := key 0 h0 0 hm
      have hspot : spot = none := by simpa [Addr.add] using World.cell?_spot hz0
      subst hspot
      refine .inr ⟨b, off, rfl, fun i hi j hj => ?_⟩
      obtain ⟨z, h1, h2⟩ := key i hi j hj
      exact ⟨z, by simpa [Go.WideShapes.add_plain] using h1, h2⟩
theorem open_rows3 {r : Go.Reach} {b0 : Nat} {v : Value} {d : DataW H} {ps : List MemPlace} (hval : Value.okWide Try.prog W r b0 54 v) (hd : DataW.Trod enc Try.prog W 0 (fun _ => true) true 54 v d ps) : ∃ ls, RN 3 W v ls := by
  obtain ⟨fuel, hf⟩ := hd
  obtain ⟨a, l, c, rfl⟩ := okWide_slice Try.underlying54 hval
  obtain ⟨A, len, cap, e, h1, h2⟩ := slice_rows (m := 3) Try.underlying54 Try.underlying57 Try.underlying3 kk3 kk57 (by decide) hf
  simp [Value.cells] at e
  obtain ⟨rfl, rfl, rfl⟩ := e
  exact rows_RN h1 h2
end
end Go.Proofs.Ytlekdhhgjhakgaa
