/-
  The argument of chapter 4's second part, opened: a tender and a bid by numbers. Nothing is asked.
-/
import Derived.Test.YtgkdeknfmmgbdaaLawR
import Derived.Test.YtgkdeknfmmgbdaaAdE
namespace Go.Proofs.Ytgkdeknfmmgbdaa
set_option linter.unusedVariables false
set_option linter.unusedSimpArgs false
open Go.RowKit Go.WideShapes Go.ChangeShapes
set_option maxRecDepth 100000

theorem list8 {α : Type} (l : List α) (h : l.length = 8) : ∃ a0 a1 a2 a3 a4 a5 a6 a7, l = [a0, a1, a2, a3, a4, a5, a6, a7] := by
  match l, h with
  | [a0, a1, a2, a3, a4, a5, a6, a7], _ => exact ⟨a0, a1, a2, a3, a4, a5, a6, a7, rfl⟩
theorem rows_R2d {W : World} {A : Option Addr} {len cap : Nat} (hl : len ≤ maxLen)
    (h : len = 0 ∨ ∃ b off, A = some ⟨b, off, none⟩ ∧ ∀ i, i < len → ∀ j, j < 2 → ∃ n, W.cell? ⟨b, off + i * 2 + j, none⟩ = some (.int .i64 n) ∧ (Lit.int .i64 n).wf = true) : ∃ ls, R2d W (.slice A len cap) ls := by
  unfold maxLen at hl
  rcases h with rfl | ⟨b, off, rfl, h⟩
  · exact ⟨[], A, cap, rfl, by simp, by simp, .inl rfl⟩
  · have key : ∀ i : Fin len, ∃ z : Int × Int, W.cell? ⟨b, off + i * 2, none⟩ = some (.int .i64 z.1) ∧ W.cell? ⟨b, off + i * 2 + 1, none⟩ = some (.int .i64 z.2) ∧ (Lit.int .i64 z.1).wf = true ∧ (Lit.int .i64 z.2).wf = true := fun i => by
      obtain ⟨a, h1, h2⟩ := h i i.2 0 (by decide)
      obtain ⟨c, h3, h4⟩ := h i i.2 1 (by decide)
      exact ⟨(a, c), h1, h3, h2, h4⟩
    refine ⟨List.ofFn fun i => (key i).choose, some ⟨b, off, none⟩, cap, by rw [List.length_ofFn], by rw [List.length_ofFn]; omega, fun z hz => ?_, .inr ⟨b, off, rfl, fun k hk => ?_⟩⟩
    · obtain ⟨i, rfl⟩ := (List.mem_ofFn).1 hz
      have := (key i).choose_spec
      exact ⟨i64_of_wf this.2.2.1, i64_of_wf this.2.2.2⟩
    · rw [List.length_ofFn] at hk
      rw [List.getElem_ofFn]
      have := (key ⟨k, hk⟩).choose_spec
      exact ⟨this.1, this.2.1⟩
theorem rows_R3d {W : World} {A : Option Addr} {len cap : Nat} (hl : len ≤ maxLen)
    (h : len = 0 ∨ ∃ b off, A = some ⟨b, off, none⟩ ∧ ∀ i, i < len → ∀ j, j < 3 → ∃ n, W.cell? ⟨b, off + i * 3 + j, none⟩ = some (.int .i64 n) ∧ (Lit.int .i64 n).wf = true) : ∃ ls, R3d W (.slice A len cap) ls := by
  unfold maxLen at hl
  rcases h with rfl | ⟨b, off, rfl, h⟩
  · exact ⟨[], A, cap, rfl, by simp, by simp, .inl rfl⟩
  · have key : ∀ i : Fin len, ∃ z : Int × Int × Int, W.cell? ⟨b, off + i * 3, none⟩ = some (.int .i64 z.1) ∧ W.cell? ⟨b, off + i * 3 + 1, none⟩ = some (.int .i64 z.2.1) ∧ W.cell? ⟨b, off + i * 3 + 2, none⟩ = some (.int .i64 z.2.2) ∧ (Lit.int .i64 z.1).wf = true ∧ (Lit.int .i64 z.2.1).wf = true ∧ (Lit.int .i64 z.2.2).wf = true := fun i => by
      obtain ⟨a, h1, h2⟩ := h i i.2 0 (by decide)
      obtain ⟨c, h3, h4⟩ := h i i.2 1 (by decide)
      obtain ⟨d, h5, h6⟩ := h i i.2 2 (by decide)
      exact ⟨(a, c, d), h1, h3, h5, h2, h4, h6⟩
    refine ⟨List.ofFn fun i => (key i).choose, some ⟨b, off, none⟩, cap, by rw [List.length_ofFn], by rw [List.length_ofFn]; omega, fun z hz => ?_, .inr ⟨b, off, rfl, fun k hk => ?_⟩⟩
    · obtain ⟨i, rfl⟩ := (List.mem_ofFn).1 hz
      have := (key i).choose_spec
      exact ⟨i64_of_wf this.2.2.2.1, i64_of_wf this.2.2.2.2.1, i64_of_wf this.2.2.2.2.2⟩
    · rw [List.length_ofFn] at hk
      rw [List.getElem_ofFn]
      have := (key ⟨k, hk⟩).choose_spec
      exact ⟨this.1, this.2.1, this.2.2.1⟩

section
variable {H : Type} {enc : TypeId × Value → H} {W : World}
theorem k22 : Try.prog.cellsOf 22 = 1 := by kernel_rfl
theorem k3 : Try.prog.cellsOf 3 = 1 := by kernel_rfl
theorem k74 : Try.prog.cellsOf 74 = 1 := by kernel_rfl
theorem k75 : Try.prog.cellsOf 75 = 1 := by kernel_rfl
theorem k77 : Try.prog.cellsOf 77 = 8 := by kernel_rfl
theorem k23 : Try.prog.cellsOf 23 = 2 := by kernel_rfl
theorem k41 : Try.prog.cellsOf 41 = 3 := by kernel_rfl
theorem open_case {r : Reach} {b0 : Nat} {v : Value} {d : DataW H} {ps : List MemPlace} (hval : Value.okWide Try.prog W r b0 77 v) (hd : DataW.Trod enc Try.prog W 0 (fun _ => true) true 77 v d ps) :
    ∃ ls low high cs rs lot price vs x0 x1 x2 x3, v = .agg (casC x0 low high x1 x2 lot price x3) ∧ IRd W (slV x0) ls ∧ R2d W (slV x1) cs ∧ R3d W (slV x2) rs ∧ R2d W (slV x3) vs := by
  obtain ⟨fuel, hf⟩ := hd
  obtain ⟨cs, rfl, hsz⟩ := okWide_struct Try.underlying77 hval
  rw [k77] at hsz
  obtain ⟨c0, c1, c2, c3, c4, c5, c6, c7, hl⟩ := list8 cs.toList (by simpa using hsz)
  obtain rfl : cs = #[c0, c1, c2, c3, c4, c5, c6, c7] := by cases cs; simp_all
  obtain ⟨xs, n, rfl, -, -, hx, hg⟩ := DataW.trod_struct Try.underlying77 hf
  have hx8 : xs.length = 8 := hx
  have some_of : ∀ i, i < 8 → ∃ y, xs[i]? = some y := fun i hi => ⟨_, List.getElem?_eq_getElem (by omega)⟩
  have f0 : ∃ y, DataW.trod enc Try.prog W 0 (fun _ => true) true n 22 [c0] = some y := by
    obtain ⟨y, hy⟩ := some_of 0 (by decide)
    have h : DataW.trod enc Try.prog W 0 (fun _ => true) true n 22 (List.take (Try.prog.cellsOf 22) [c0, c1, c2, c3, c4, c5, c6, c7]) = xs[0]? := hg 0 _ rfl
    rw [k22, hy] at h
    exact ⟨y, h⟩
  have f1 : ∃ y, DataW.trod enc Try.prog W 0 (fun _ => true) true n 3 [c1] = some y := by
    obtain ⟨y, hy⟩ := some_of 1 (by decide)
    have h : DataW.trod enc Try.prog W 0 (fun _ => true) true n 3 (List.take (Try.prog.cellsOf 3) [c1, c2, c3, c4, c5, c6, c7]) = xs[1]? := hg 1 _ rfl
    rw [k3, hy] at h
    exact ⟨y, h⟩
  have f2 : ∃ y, DataW.trod enc Try.prog W 0 (fun _ => true) true n 3 [c2] = some y := by
    obtain ⟨y, hy⟩ := some_of 2 (by decide)
    have h : DataW.trod enc Try.prog W 0 (fun _ => true) true n 3 (List.take (Try.prog.cellsOf 3) [c2, c3, c4, c5, c6, c7]) = xs[2]? := hg 2 _ rfl
    rw [k3, hy] at h
    exact ⟨y, h⟩
  have f3 : ∃ y, DataW.trod enc Try.prog W 0 (fun _ => true) true n 74 [c3] = some y := by
    obtain ⟨y, hy⟩ := some_of 3 (by decide)
    have h : DataW.trod enc Try.prog W 0 (fun _ => true) true n 74 (List.take (Try.prog.cellsOf 74) [c3, c4, c5, c6, c7]) = xs[3]? := hg 3 _ rfl
    rw [k74, hy] at h
    exact ⟨y, h⟩
  have f4 : ∃ y, DataW.trod enc Try.prog W 0 (fun _ => true) true n 75 [c4] = some y := by
    obtain ⟨y, hy⟩ := some_of 4 (by decide)
    have h : DataW.trod enc Try.prog W 0 (fun _ => true) true n 75 (List.take (Try.prog.cellsOf 75) [c4, c5, c6, c7]) = xs[4]? := hg 4 _ rfl
    rw [k75, hy] at h
    exact ⟨y, h⟩
  have f5 : ∃ y, DataW.trod enc Try.prog W 0 (fun _ => true) true n 3 [c5] = some y := by
    obtain ⟨y, hy⟩ := some_of 5 (by decide)
    have h : DataW.trod enc Try.prog W 0 (fun _ => true) true n 3 (List.take (Try.prog.cellsOf 3) [c5, c6, c7]) = xs[5]? := hg 5 _ rfl
    rw [k3, hy] at h
    exact ⟨y, h⟩
  have f6 : ∃ y, DataW.trod enc Try.prog W 0 (fun _ => true) true n 3 [c6] = some y := by
    obtain ⟨y, hy⟩ := some_of 6 (by decide)
    have h : DataW.trod enc Try.prog W 0 (fun _ => true) true n 3 (List.take (Try.prog.cellsOf 3) [c6, c7]) = xs[6]? := hg 6 _ rfl
    rw [k3, hy] at h
    exact ⟨y, h⟩
  have f7 : ∃ y, DataW.trod enc Try.prog W 0 (fun _ => true) true n 74 [c7] = some y := by
    obtain ⟨y, hy⟩ := some_of 7 (by decide)
    have h : DataW.trod enc Try.prog W 0 (fun _ => true) true n 74 (List.take (Try.prog.cellsOf 74) [c7]) = xs[7]? := hg 7 _ rfl
    rw [k74, hy] at h
    exact ⟨y, h⟩
  obtain ⟨y0, f0⟩ := f0
  obtain ⟨y1, f1⟩ := f1
  obtain ⟨y2, f2⟩ := f2
  obtain ⟨y3, f3⟩ := f3
  obtain ⟨y4, f4⟩ := f4
  obtain ⟨y5, f5⟩ := f5
  obtain ⟨y6, f6⟩ := f6
  obtain ⟨y7, f7⟩ := f7
  obtain ⟨v0, ls, e0, h0⟩ := ird_of_trod f0
  obtain ⟨low, e1, -, -⟩ := DataW.trod_int Try.underlying3 f1
  obtain ⟨high, e2, -, -⟩ := DataW.trod_int Try.underlying3 f2
  obtain ⟨A3, n3, p3, e3, m3, h3⟩ := slice_rows Try.underlying74 Try.underlying23 Try.underlying3 k3 k23 (by decide) f3
  obtain ⟨A4, n4, p4, e4, m4, h4⟩ := slice_rows Try.underlying75 Try.underlying41 Try.underlying3 k3 k41 (by decide) f4
  obtain ⟨lot, e5, -, -⟩ := DataW.trod_int Try.underlying3 f5
  obtain ⟨price, e6, -, -⟩ := DataW.trod_int Try.underlying3 f6
  obtain ⟨A7, n7, p7, e7, m7, h7⟩ := slice_rows Try.underlying74 Try.underlying23 Try.underlying3 k3 k23 (by decide) f7
  simp only [List.cons.injEq, and_true] at e0 e1 e2 e3 e4 e5 e6 e7
  subst e0 e1 e2 e3 e4 e5 e6 e7
  obtain ⟨cs, h3⟩ := rows_R2d m3 h3
  obtain ⟨rs, h4⟩ := rows_R3d m4 h4
  obtain ⟨vs, h7⟩ := rows_R2d m7 h7
  obtain ⟨A0, p0, e0, -⟩ := id h0
  subst e0
  exact ⟨ls, low, high, cs, rs, lot, price, vs, (A0, ls.length, p0), (A3, n3, p3), (A4, n4, p4), (A7, n7, p7), rfl, h0, h3, h4, h7⟩
theorem open_case2 {r : Reach} {b0 : Nat} {v : Value} {d : DataW H} {ps : List MemPlace} (hval : Value.okWide Try.prog W r b0 77 v) (hd : DataW.Trod enc Try.prog W 0 (fun _ => true) true 77 v d ps) :
    ∃ ls low high cs rs lot price vs x0 x1 x2 x3, v = .agg (casC x0 low high x1 x2 lot price x3) ∧ IRd W (slV x0) ls ∧ R2d W (slV x1) cs ∧ R3d W (slV x2) rs ∧ R2d W (slV x3) vs ∧ -9223372036854775808 ≤ price ∧ price ≤ 9223372036854775807 := by
  obtain ⟨fuel, hf⟩ := hd
  obtain ⟨cs, rfl, hsz⟩ := okWide_struct Try.underlying77 hval
  rw [k77] at hsz
  obtain ⟨c0, c1, c2, c3, c4, c5, c6, c7, hl⟩ := list8 cs.toList (by simpa using hsz)
  obtain rfl : cs = #[c0, c1, c2, c3, c4, c5, c6, c7] := by cases cs; simp_all
  obtain ⟨xs, n, rfl, -, -, hx, hg⟩ := DataW.trod_struct Try.underlying77 hf
  have hx8 : xs.length = 8 := hx
  have some_of : ∀ i, i < 8 → ∃ y, xs[i]? = some y := fun i hi => ⟨_, List.getElem?_eq_getElem (by omega)⟩
  have f0 : ∃ y, DataW.trod enc Try.prog W 0 (fun _ => true) true n 22 [c0] = some y := by
    obtain ⟨y, hy⟩ := some_of 0 (by decide)
    have h : DataW.trod enc Try.prog W 0 (fun _ => true) true n 22 (List.take (Try.prog.cellsOf 22) [c0, c1, c2, c3, c4, c5, c6, c7]) = xs[0]? := hg 0 _ rfl
    rw [k22, hy] at h
    exact ⟨y, h⟩
  have f1 : ∃ y, DataW.trod enc Try.prog W 0 (fun _ => true) true n 3 [c1] = some y := by
    obtain ⟨y, hy⟩ := some_of 1 (by decide)
    have h : DataW.trod enc Try.prog W 0 (fun _ => true) true n 3 (List.take (Try.prog.cellsOf 3) [c1, c2, c3, c4, c5, c6, c7]) = xs[1]? := hg 1 _ rfl
    rw [k3, hy] at h
    exact ⟨y, h⟩
  have f2 : ∃ y, DataW.trod enc Try.prog W 0 (fun _ => true) true n 3 [c2] = some y := by
    obtain ⟨y, hy⟩ := some_of 2 (by decide)
    have h : DataW.trod enc Try.prog W 0 (fun _ => true) true n 3 (List.take (Try.prog.cellsOf 3) [c2, c3, c4, c5, c6, c7]) = xs[2]? := hg 2 _ rfl
    rw [k3, hy] at h
    exact ⟨y, h⟩
  have f3 : ∃ y, DataW.trod enc Try.prog W 0 (fun _ => true) true n 74 [c3] = some y := by
    obtain ⟨y, hy⟩ := some_of 3 (by decide)
    have h : DataW.trod enc Try.prog W 0 (fun _ => true) true n 74 (List.take (Try.prog.cellsOf 74) [c3, c4, c5, c6, c7]) = xs[3]? := hg 3 _ rfl
    rw [k74, hy] at h
    exact ⟨y, h⟩
  have f4 : ∃ y, DataW.trod enc Try.prog W 0 (fun _ => true) true n 75 [c4] = some y := by
    obtain ⟨y, hy⟩ := some_of 4 (by decide)
    have h : DataW.trod enc Try.prog W 0 (fun _ => true) true n 75 (List.take (Try.prog.cellsOf 75) [c4, c5, c6, c7]) = xs[4]? := hg 4 _ rfl
    rw [k75, hy] at h
    exact ⟨y, h⟩
  have f5 : ∃ y, DataW.trod enc Try.prog W 0 (fun _ => true) true n 3 [c5] = some y := by
    obtain ⟨y, hy⟩ := some_of 5 (by decide)
    have h : DataW.trod enc Try.prog W 0 (fun _ => true) true n 3 (List.take (Try.prog.cellsOf 3) [c5, c6, c7]) = xs[5]? := hg 5 _ rfl
    rw [k3, hy] at h
    exact ⟨y, h⟩
  have f6 : ∃ y, DataW.trod enc Try.prog W 0 (fun _ => true) true n 3 [c6] = some y := by
    obtain ⟨y, hy⟩ := some_of 6 (by decide)
    have h : DataW.trod enc Try.prog W 0 (fun _ => true) true n 3 (List.take (Try.prog.cellsOf 3) [c6, c7]) = xs[6]? := hg 6 _ rfl
    rw [k3, hy] at h
    exact ⟨y, h⟩
  have f7 : ∃ y, DataW.trod enc Try.prog W 0 (fun _ => true) true n 74 [c7] = some y := by
    obtain ⟨y, hy⟩ := some_of 7 (by decide)
    have h : DataW.trod enc Try.prog W 0 (fun _ => true) true n 74 (List.take (Try.prog.cellsOf 74) [c7]) = xs[7]? := hg 7 _ rfl
    rw [k74, hy] at h
    exact ⟨y, h⟩
  obtain ⟨y0, f0⟩ := f0
  obtain ⟨y1, f1⟩ := f1
  obtain ⟨y2, f2⟩ := f2
  obtain ⟨y3, f3⟩ := f3
  obtain ⟨y4, f4⟩ := f4
  obtain ⟨y5, f5⟩ := f5
  obtain ⟨y6, f6⟩ := f6
  obtain ⟨y7, f7⟩ := f7
  obtain ⟨v0, ls, e0, h0⟩ := ird_of_trod f0
  obtain ⟨low, e1, -, -⟩ := DataW.trod_int Try.underlying3 f1
  obtain ⟨high, e2, -, -⟩ := DataW.trod_int Try.underlying3 f2
  obtain ⟨A3, n3, p3, e3, m3, h3⟩ := slice_rows Try.underlying74 Try.underlying23 Try.underlying3 k3 k23 (by decide) f3
  obtain ⟨A4, n4, p4, e4, m4, h4⟩ := slice_rows Try.underlying75 Try.underlying41 Try.underlying3 k3 k41 (by decide) f4
  obtain ⟨lot, e5, -, -⟩ := DataW.trod_int Try.underlying3 f5
  obtain ⟨price, e6, -, wp⟩ := DataW.trod_int Try.underlying3 f6
  obtain ⟨A7, n7, p7, e7, m7, h7⟩ := slice_rows Try.underlying74 Try.underlying23 Try.underlying3 k3 k23 (by decide) f7
  simp only [List.cons.injEq, and_true] at e0 e1 e2 e3 e4 e5 e6 e7
  subst e0 e1 e2 e3 e4 e5 e6 e7
  obtain ⟨cs, h3⟩ := rows_R2d m3 h3
  obtain ⟨rs, h4⟩ := rows_R3d m4 h4
  obtain ⟨vs, h7⟩ := rows_R2d m7 h7
  obtain ⟨A0, p0, e0, -⟩ := id h0
  subst e0
  exact ⟨ls, low, high, cs, rs, lot, price, vs, (A0, ls.length, p0), (A3, n3, p3), (A4, n4, p4), (A7, n7, p7), rfl, h0, h3, h4, h7, i64_of_wf wp⟩
end
end Go.Proofs.Ytgkdeknfmmgbdaa
