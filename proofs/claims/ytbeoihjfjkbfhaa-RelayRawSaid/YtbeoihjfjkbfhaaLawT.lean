/-
  The arguments of RelayRaw, opened: pairs of ints, texts. Nothing is asked.
-/
import Derived.Test.YtbeoihjfjkbfhaaJnG
namespace Go.Proofs.Ytbeoihjfjkbfhaa
set_option linter.unusedVariables false
set_option linter.unusedSimpArgs false
open Go.RowKit Go.WideShapes Go.ChangeShapes
set_option maxRecDepth 100000
/-- A slice of strings. -/
def TRd (w : World) (v : Value) (ls : List ByteArray) : Prop :=
  ∃ A cap, v = .slice A ls.length cap ∧ ls.length ≤ 9223372036854775807 ∧ (∀ s ∈ ls, s.size ≤ 9223372036854775807) ∧
    (ls = [] ∨ ∃ b off, A = some ⟨b, off, none⟩ ∧ ∀ k (h : k < ls.length), w.cell? ⟨b, off + k, none⟩ = some (.string ls[k]))
theorem TRd.ext {w w' : World} {v : Value} {ls : List ByteArray} (h : TRd w v ls) (e : Ext w w') : TRd w' v ls := by
  obtain ⟨A, cap, h1, h2, h3, h4⟩ := h
  exact ⟨A, cap, h1, h2, h3, h4.imp id fun ⟨b, off, ha, hc⟩ => ⟨b, off, ha, fun k hk => (e.cells.1 _ _ (World.block_lt_of_cell? w _ (hc k hk))).trans (hc k hk)⟩⟩
theorem TRd.form {w : World} {v : Value} {ls : List ByteArray} (h : TRd w v ls) : ∃ A cap, v = .slice A ls.length cap ∧ ls.length ≤ 9223372036854775807 := by
  obtain ⟨A, cap, h1, h2, -⟩ := h
  exact ⟨A, cap, h1, h2⟩
theorem txt_at {w : World} {A : Option Addr} {l c : Nat} {ls : List ByteArray} (h : TRd w (.slice A l c) ls) (k : Nat) (hk : k < ls.length) :
    ∃ b off, A = some ⟨b, off, none⟩ ∧ b < w.heap.size ∧ w.cell? ⟨b, off + k, none⟩ = some (.string ls[k]) ∧ ls[k].size ≤ 9223372036854775807 := by
  obtain ⟨A', cap, h1, h2, h3, h4⟩ := h
  injection h1 with e1 e2 e3
  subst e1
  obtain ⟨b, off, ha, hc⟩ := h4.resolve_left (by intro e; rw [e] at hk; simp at hk)
  exact ⟨b, off, ha, World.block_lt_of_cell? w _ (hc k hk), hc k hk, h3 _ (List.getElem_mem _)⟩
theorem pair_at {w : World} {A : Option Addr} {l c : Nat} {ls : List (List Int)} (h : RN 2 w (.slice A l c) ls) (k : Nat) (hk : k < ls.length) :
    ∃ b off t0 t1, A = some ⟨b, off, none⟩ ∧ b < w.heap.size ∧ w.cell? ⟨b, off + k * 2, none⟩ = some (.int .i64 t0) ∧ w.cell? ⟨b, off + k * 2 + 1, none⟩ = some (.int .i64 t1) ∧ OkI t0 ∧ OkI t1 := by
  obtain ⟨b, off, h1, h2, h3⟩ := h.at k hk
  have h0 := h2 0 (by decide)
  exact ⟨b, off, _, _, h1, World.block_lt_of_cell? w _ h0, h0, h2 1 (by decide), h3 0, h3 1⟩
section
variable {H : Type} {enc : TypeId × Value → H} {W : World}
theorem kk41 : Try.prog.cellsOf 41 = 2 := by kernel_rfl
theorem kk9 : Try.prog.cellsOf 9 = 1 := by kernel_rfl
theorem slice_rows {t e u : TypeId} {m : Nat} {k : IntKind} {fuel : Nat} {cs : List Value} {x : DataW H × List MemPlace} (ht : Try.prog.underlying t = some (.slice e)) (hte : Try.prog.underlying e = some (.array m u)) (he : Try.prog.underlying u = some (.int k)) (hc : Try.prog.cellsOf u = 1) (hct : Try.prog.cellsOf e = m) (hm : 0 < m)
    (h : DataW.trod enc Try.prog W 0 (fun _ => true) true fuel t cs = some x) :
    ∃ A len cap, cs = [.slice A len cap] ∧ len ≤ maxLen ∧ (len = 0 ∨ ∃ b off, A = some ⟨b, off, none⟩ ∧ ∀ i, i < len → ∀ j, j < m → ∃ n, W.cell? ⟨b, off + i * m + j, none⟩ = some (.int k n) ∧ (Lit.int k n).wf = true) := by
  rcases DataW.trod_slice ht h with ⟨rfl, -⟩ | ⟨a, len, cap, elems, rest, n, -, rfl, -, -, hl, hmx, hlen, hel, -, -⟩
  · exact ⟨none, 0, 0, rfl, Nat.zero_le _, .inl rfl⟩
  · refine ⟨some a, len, cap, rfl, by omega, ?_⟩
    rcases Nat.eq_zero_or_pos len with h0 | h0
    · exact .inl h0
    · have key : ∀ i, i < len → ∀ j, j < m → ∃ z, W.cell? ((a.add (i * m)).add j) = some (.int k z) ∧ (Lit.int k z).wf = true := by
        intro i hi j hj
        have h1 := hel i hi
        rw [List.getElem?_eq_getElem (by omega)] at h1
        obtain ⟨ecs, h2, h3⟩ := Option.bind_eq_some_iff.1 h1
        obtain ⟨h4, h5⟩ := arr_ints hte he hc hct h3
        obtain ⟨z, h6, h7⟩ := h5 j hj
        have := (World.cells?_some h2).2.2 j (by rw [hct]; exact hj)
        rw [hct] at this
        exact ⟨z, by rw [this, h6], h7⟩
      obtain ⟨b, off, spot⟩ := a
      obtain ⟨z0, hz0, -⟩ := key 0 h0 0 hm
      have hspot : spot = none := by simpa [Addr.add] using World.cell?_spot hz0
      subst hspot
      refine .inr ⟨b, off, rfl, fun i hi j hj => ?_⟩
      obtain ⟨z, h1, h2⟩ := key i hi j hj
      exact ⟨z, by simpa [Go.WideShapes.add_plain] using h1, h2⟩
theorem open_pairs {r : Go.Reach} {b0 : Nat} {v : Value} {d : DataW H} {ps : List MemPlace} (hval : Value.okWide Try.prog W r b0 37 v) (hd : DataW.Trod enc Try.prog W 0 (fun _ => true) true 37 v d ps) : ∃ ls, RN 2 W v ls := by
  obtain ⟨fuel, hf⟩ := hd
  obtain ⟨a, l, c, rfl⟩ := okWide_slice Try.underlying37 hval
  obtain ⟨A, len, cap, e, h1, h2⟩ := slice_rows (m := 2) Try.underlying37 Try.underlying41 Try.underlying3 kk3 kk41 (by decide) hf
  simp [Value.cells] at e
  obtain ⟨rfl, rfl, rfl⟩ := e
  exact rows_RN h1 h2
theorem open_texts {r : Go.Reach} {b0 : Nat} {v : Value} {d : DataW H} {ps : List MemPlace} (hval : Value.okWide Try.prog W r b0 38 v) (hd : DataW.Trod enc Try.prog W 0 (fun _ => true) true 38 v d ps) : ∃ ls, TRd W v ls := by
  obtain ⟨fuel, hf⟩ := hd
  obtain ⟨a, l, c, rfl⟩ := okWide_slice Try.underlying38 hval
  rcases DataW.trod_slice Try.underlying38 hf with ⟨e, -⟩ | ⟨a', len, cap, elems, rest, n, -, e, -, -, hl, hmx, hlen, hel, -, -⟩
  · simp [Value.cells] at e
    obtain ⟨rfl, rfl, rfl⟩ := e
    exact ⟨[], none, 0, rfl, by simp, by simp, .inl rfl⟩
  · simp [Value.cells] at e
    obtain ⟨rfl, rfl, rfl⟩ := e
    unfold maxLen at hmx
    rcases Nat.eq_zero_or_pos l with h0 | h0
    · subst h0
      exact ⟨[], some a', c, rfl, by simp, by simp, .inl rfl⟩
    · have key : ∀ i, i < l → ∃ s : ByteArray, W.cell? (a'.add i) = some (.string s) ∧ s.size ≤ 9223372036854775807 := by
        intro i hi
        have h1 := hel i hi
        rw [List.getElem?_eq_getElem (by omega)] at h1
        obtain ⟨ecs, h2, h3⟩ := Option.bind_eq_some_iff.1 h1
        obtain ⟨s, h4, -, h5⟩ := DataW.trod_string Try.underlying9 h3
        have := (World.cells?_some h2).2.2 0 (by rw [kk9]; decide)
        rw [kk9, Nat.mul_one, h4] at this
        unfold maxLen at h5
        exact ⟨s, by simpa [Go.WideShapes.add_plain, Addr.add] using this, by omega⟩
      obtain ⟨b, off, spot⟩ := a'
      obtain ⟨z0, hz0, -⟩ := key 0 h0
      have hspot : spot = none := by simpa [Addr.add] using World.cell?_spot hz0
      subst hspot
      let F : Nat → ByteArray := fun i => match W.cell? ⟨b, off + i, none⟩ with | some (.string s) => s | _ => ⟨#[]⟩
      have hF : ∀ i, i < l → W.cell? ⟨b, off + i, none⟩ = some (.string (F i)) ∧ (F i).size ≤ 9223372036854775807 := fun i hi => by
        obtain ⟨s, h1, h2⟩ := key i hi
        have h1' : W.cell? ⟨b, off + i, none⟩ = some (.string s) := by simpa [Go.WideShapes.add_plain] using h1
        have : F i = s := by show (match W.cell? ⟨b, off + i, none⟩ with | some (.string s) => s | _ => ⟨#[]⟩) = s; rw [h1']
        rw [this]
        exact ⟨h1', h2⟩
      refine ⟨(List.range l).map F, some ⟨b, off, none⟩, c, by simp, by simp; omega, fun z hz => ?_, .inr ⟨b, off, rfl, fun k hk => ?_⟩⟩
      · obtain ⟨i, hi, rfl⟩ := List.mem_map.1 hz
        exact (hF i (List.mem_range.1 hi)).2
      · have hk' : k < l := by simpa using hk
        rw [(hF k hk').1]
        simp
end
end Go.Proofs.Ytbeoihjfjkbfhaa
