/-
  A slice of items among the arguments, opened. Nothing is asked.
-/
import Derived.Test.YthdhlocoiipbaaaLawO
namespace Go.Proofs.Ythdhlocoiipbaaa
set_option linter.unusedVariables false
set_option linter.unusedSimpArgs false
open Go.RowKit Go.WideShapes Go.ChangeShapes
set_option maxRecDepth 100000

/-- The slice v holds the items xs, however many. -/
def RWI (w : World) (v : Value) (xs : List It) : Prop :=
  ∃ A cap, v = .slice A xs.length cap ∧ xs.length ≤ 9223372036854775807 ∧ (∀ x ∈ xs, x.good w ∧ ∃ A c, x.fv = .slice A x.frm.length c ∧ x.frm.length ≤ c ∧ c ≤ 9223372036854775807) ∧
    (xs = [] ∨ ∃ b off, A = some ⟨b, off, none⟩ ∧ ∀ k (h : k < xs.length), w.cell? ⟨b, off + k * 3, none⟩ = some (.int .i64 xs[k].id) ∧ w.cell? ⟨b, off + k * 3 + 1, none⟩ = some (.int .i64 xs[k].label) ∧ w.cell? ⟨b, off + k * 3 + 2, none⟩ = some xs[k].fv)
theorem RWI.ext {w w' : World} {v : Value} {xs : List It} (h : RWI w v xs) (e : Ext w w') : RWI w' v xs := by
  obtain ⟨A, cap, h1, h2, h3, h4⟩ := h
  refine ⟨A, cap, h1, h2, fun x hx => ⟨(h3 x hx).1.ext e, (h3 x hx).2⟩, h4.imp id fun ⟨b, off, ha, hc⟩ => ⟨b, off, ha, fun k hk => ?_⟩⟩
  obtain ⟨a1, a2, a3⟩ := hc k hk
  exact ⟨(e.cells.1 _ _ (World.block_lt_of_cell? w _ a1)).trans a1, (e.cells.1 _ _ (World.block_lt_of_cell? w _ a2)).trans a2, (e.cells.1 _ _ (World.block_lt_of_cell? w _ a3)).trans a3⟩

section
variable {H : Type} {enc : TypeId × Value → H} {W : World}
theorem k28 : Try.prog.cellsOf 28 = 1 := by kernel_rfl
theorem k32 : Try.prog.cellsOf 32 = 3 := by kernel_rfl
theorem ird_of_trod {fuel : Nat} {cs : List Value} {x : DataW H × List MemPlace} (h : DataW.trod enc Try.prog W 0 (fun _ => true) true fuel 28 cs = some x) : ∃ A ls c, cs = [.slice A ls.length c] ∧ ls.length ≤ c ∧ c ≤ 9223372036854775807 ∧ IRd W (.slice A ls.length c) ls := by
  rcases open_ints Try.underlying28 Try.underlying3 cells3 h with ⟨rfl, -⟩ | ⟨a, len, cap, zs, rfl, -, hl, hm, hz, -, hc, hw⟩
  · exact ⟨_, [], _, rfl, by simp, by decide, none, 0, rfl, by simp, by simp, .inl rfl⟩
  · have hlen : (zs.take len).length = len := by rw [List.length_take, hz]; simp; omega
    unfold maxLen at hm
    refine ⟨some a, zs.take len, cap, by rw [hlen], by rw [hlen]; exact hl, by omega, some a, cap, rfl, by rw [hlen]; omega, fun z hz => i64_of_wf (hw z (List.mem_of_mem_take hz)), ?_⟩
    rcases Nat.eq_zero_or_pos len with rfl | hpos
    · exact .inl rfl
    · have hzl : len ≤ zs.length := by rw [hz]; simp; omega
      obtain ⟨b, off, rfl, hcell⟩ := ints_at hc (by omega)
      refine .inr ⟨b, off, rfl, fun k hk => ?_⟩
      rw [hlen] at hk
      rw [hcell k (by omega), List.getElem_take, List.getD_eq_getElem?_getD, List.getElem?_eq_getElem (by omega)]
      rfl
theorem list3 {α : Type} (l : List α) (h : l.length = 3) : ∃ a b c, l = [a, b, c] := by
  match l, h with
  | [a, b, c], _ => exact ⟨a, b, c, rfl⟩
theorem int_of_trod {fuel : Nat} {c : Value} {x : DataW H × List MemPlace} (h : DataW.trod enc Try.prog W 0 (fun _ => true) true fuel 3 [c] = some x) : ∃ a : Int, c = .int .i64 a ∧ OkI a := by
  obtain ⟨n, h1, -, h3⟩ := DataW.trod_int Try.underlying3 h
  simp only [List.cons.injEq, and_true] at h1
  exact ⟨n, h1, i64_of_wf h3⟩
theorem item_of_trod {fuel : Nat} {cs : List Value} {x : DataW H × List MemPlace} (hl : cs.length = 3) (h : DataW.trod enc Try.prog W 0 (fun _ => true) true fuel 32 cs = some x) :
    ∃ it : It, cs = it.cs ∧ it.good W ∧ ∃ A c, it.fv = .slice A it.frm.length c ∧ it.frm.length ≤ c ∧ c ≤ 9223372036854775807 := by
  obtain ⟨c0, c1, c2, rfl⟩ := list3 cs hl
  obtain ⟨xs, n, rfl, -, -, hx, hg⟩ := DataW.trod_struct Try.underlying32 h
  have hx3 : xs.length = 3 := hx
  have some_of : ∀ i, i < 3 → ∃ y, xs[i]? = some y := fun i hi => ⟨_, List.getElem?_eq_getElem (by omega)⟩
  obtain ⟨y0, hy0⟩ := some_of 0 (by decide)
  obtain ⟨y1, hy1⟩ := some_of 1 (by decide)
  obtain ⟨y2, hy2⟩ := some_of 2 (by decide)
  have f0 : DataW.trod enc Try.prog W 0 (fun _ => true) true n 3 (List.take (Try.prog.cellsOf 3) [c0, c1, c2]) = xs[0]? := hg 0 _ rfl
  have f1 : DataW.trod enc Try.prog W 0 (fun _ => true) true n 3 (List.take (Try.prog.cellsOf 3) [c1, c2]) = xs[1]? := hg 1 _ rfl
  have f2 : DataW.trod enc Try.prog W 0 (fun _ => true) true n 28 (List.take (Try.prog.cellsOf 28) [c2]) = xs[2]? := hg 2 _ rfl
  rw [cells3, hy0] at f0
  rw [cells3, hy1] at f1
  rw [k28, hy2] at f2
  obtain ⟨a, rfl, ha⟩ := int_of_trod f0
  obtain ⟨l, rfl, hl'⟩ := int_of_trod f1
  obtain ⟨A, ls, c, e, h1, h2, h3⟩ := ird_of_trod f2
  simp only [List.take_succ_cons, List.take_zero, List.cons.injEq, and_true] at e
  subst e
  exact ⟨⟨a, l, .slice A ls.length c, ls⟩, rfl, ⟨ha, hl', h3⟩, A, c, rfl, h1, h2⟩
open Classical in
theorem open_RWI {r : Go.Reach} {b0 : Nat} {v : Value} {d : DataW H} {ps : List MemPlace} (hval : Value.okWide Try.prog W r b0 23 v) (hd : DataW.Trod enc Try.prog W 0 (fun _ => true) true 23 v d ps) : ∃ xs, RWI W v xs := by
  obtain ⟨fuel, hf⟩ := hd
  obtain ⟨a, l, c, rfl⟩ := okWide_slice Try.underlying23 hval
  rcases DataW.trod_slice Try.underlying23 hf with ⟨hcs, -⟩ | ⟨a', len, cap, elems, rest, n, -, hcs, -, -, hl, hmx, hlen, hel, -, -⟩
  · simp [Value.cells] at hcs
    obtain ⟨rfl, rfl, rfl⟩ := hcs
    exact ⟨[], none, 0, rfl, by simp, by simp, .inl rfl⟩
  · simp [Value.cells] at hcs
    obtain ⟨rfl, rfl, rfl⟩ := hcs
    unfold maxLen at hmx
    have key : ∀ i, i < l → ∃ it : It, (∀ j u, it.cs[j]? = some u → W.cell? ((a'.add (i * 3)).add j) = some u) ∧ it.good W ∧ ∃ A c, it.fv = .slice A it.frm.length c ∧ it.frm.length ≤ c ∧ c ≤ 9223372036854775807 := by
      intro i hi
      have h1 := hel i hi
      rw [List.getElem?_eq_getElem (by omega)] at h1
      obtain ⟨ecs, h2, h3⟩ := Option.bind_eq_some_iff.1 h1
      rw [k32] at h2
      have h4 := World.cells?_some h2
      obtain ⟨it, rfl, hg, hs⟩ := item_of_trod h4.2.1 h3
      refine ⟨it, fun j u hu => ?_, hg, hs⟩
      rw [h4.2.2 j (List.getElem?_eq_some_iff.1 hu).1]
      exact hu
    let F : Nat → It := fun i => if h : i < l then Classical.choose (key i h) else ⟨0, 0, .slice none 0 0, []⟩
    have hF : ∀ i, i < l → (∀ j u, (F i).cs[j]? = some u → W.cell? ((a'.add (i * 3)).add j) = some u) ∧ (F i).good W ∧ ∃ A c, (F i).fv = .slice A (F i).frm.length c ∧ (F i).frm.length ≤ c ∧ c ≤ 9223372036854775807 := by
      intro i hi
      have : F i = Classical.choose (key i hi) := dif_pos hi
      rw [this]
      exact Classical.choose_spec (key i hi)
    have hlF : ((List.range l).map F).length = l := by simp
    refine ⟨(List.range l).map F, some a', c, by rw [hlF], by rw [hlF]; omega, fun x hx => ?_, ?_⟩
    · obtain ⟨i, hi, rfl⟩ := List.mem_map.1 hx
      exact (hF i (List.mem_range.1 hi)).2
    · rcases Nat.eq_zero_or_pos l with h0 | h0
      · exact .inl (List.length_eq_zero_iff.1 (by rw [hlF, h0]))
      · obtain ⟨b, off, spot⟩ := a'
        have h00 := (hF 0 h0).1 0 _ rfl
        have hspot : spot = none := by simpa [Addr.add] using World.cell?_spot h00
        subst hspot
        refine .inr ⟨b, off, rfl, fun k hk => ?_⟩
        rw [hlF] at hk
        have hk' := (hF k hk).1
        simp only [List.getElem_map, List.getElem_range]
        refine ⟨?_, ?_, ?_⟩
        · simpa [Go.WideShapes.add_plain] using hk' 0 _ rfl
        · simpa [Go.WideShapes.add_plain] using hk' 1 _ rfl
        · simpa [Go.WideShapes.add_plain] using hk' 2 _ rfl
end
end Go.Proofs.Ythdhlocoiipbaaa
