/-
  Slices of arrays of ints among the arguments, read as lists of rows. Nothing is asked.
-/
import Derived.Test.YthdhlocoiipbaaaLawG
namespace Go.Proofs.Ythdhlocoiipbaaa
set_option linter.unusedVariables false
set_option linter.unusedSimpArgs false
open Go.RowKit Go.WideShapes Go.ChangeShapes
set_option maxRecDepth 100000

section
variable {H : Type} {enc : TypeId × Value → H} {W : World}
/-- An array's parts. -/
theorem arr_parts {t e : TypeId} {m : Nat} {fuel : Nat} {cs : List Value} {x : DataW H × List MemPlace} (ht : Try.prog.underlying t = some (.array m e)) (hct : Try.prog.cellsOf t = m * Try.prog.cellsOf e)
    (h : DataW.trod enc Try.prog W 0 (fun _ => true) true fuel t cs = some x) : ∃ n, cs.length = m * Try.prog.cellsOf e ∧ ∀ i, i < m → ∃ y, DataW.trod enc Try.prog W 0 (fun _ => true) true n e ((cs.drop (i * Try.prog.cellsOf e)).take (Try.prog.cellsOf e)) = some y := by
  cases fuel with
  | zero => simp [DataW.trod] at h
  | succ n =>
    have key : ∃ xs, cs.length = Try.prog.cellsOf t ∧ ((List.range m).mapM fun i => DataW.trod enc Try.prog W 0 (fun _ => true) true n e ((cs.drop (i * Try.prog.cellsOf e)).take (Try.prog.cellsOf e))) = some xs := by
      clear hct
      unfold DataW.trod at h
      rw [ht] at h
      have fin : ∀ (cs : List Value) (x : DataW H × List MemPlace), (if cs.length = Try.prog.cellsOf t then Option.map (fun xs => (DataW.agg (List.map (fun x => x.fst) xs), List.flatMap (fun x => x.snd) xs)) (List.mapM (fun i => DataW.trod enc Try.prog W 0 (fun _ => true) true n e (List.take (Try.prog.cellsOf e) (List.drop (i * Try.prog.cellsOf e) cs))) (List.range m)) else none) = some x →
          ∃ xs, cs.length = Try.prog.cellsOf t ∧ ((List.range m).mapM fun i => DataW.trod enc Try.prog W 0 (fun _ => true) true n e ((cs.drop (i * Try.prog.cellsOf e)).take (Try.prog.cellsOf e))) = some xs := by
        intro cs x h
        split at h
        · rename_i hl
          obtain ⟨xs, hx, -⟩ := Option.map_eq_some_iff.1 h
          exact ⟨xs, hl, hx⟩
        · cases h
      split at h <;> first | (rename_i heq; cases heq; done) | (rename_i heq; injection heq with heq; injection heq with e1 e2; subst e1 e2; exact fin _ _ h) | exact fin _ _ h | (rename_i heq; injection heq with heq; cases heq; done)
    obtain ⟨xs, hl, hp⟩ := key
    refine ⟨n, hl.trans hct, fun i hi => ?_⟩
    have hg := mapM_some_get hp i i (by simp [hi])
    have hlen := mapM_some_length hp
    exact ⟨xs[i]'(by rw [hlen]; simpa using hi), by rw [hg, List.getElem?_eq_getElem]⟩
theorem okWide_array {t e : TypeId} {m : Nat} {r : Reach} {b0 : Nat} {v : Value} (ht : Try.prog.underlying t = some (.array m e)) (h : Value.okWide Try.prog W r b0 t v) : ∃ cs, v = .agg cs ∧ cs.size = Try.prog.cellsOf t := by
  unfold Value.okWide at h
  rw [ht] at h
  obtain ⟨cs, h1, h2, -⟩ := h
  exact ⟨cs, h1, h2⟩
/-- An array of m ints. -/
theorem arr_ints {t e : TypeId} {m : Nat} {k : IntKind} {fuel : Nat} {cs : List Value} {x : DataW H × List MemPlace} (ht : Try.prog.underlying t = some (.array m e)) (he : Try.prog.underlying e = some (.int k)) (hc : Try.prog.cellsOf e = 1) (hct : Try.prog.cellsOf t = m)
    (h : DataW.trod enc Try.prog W 0 (fun _ => true) true fuel t cs = some x) : cs.length = m ∧ ∀ i, i < m → ∃ n, cs[i]? = some (.int k n) ∧ (Lit.int k n).wf = true := by
  cases fuel with
  | zero => simp [DataW.trod] at h
  | succ n =>
    have key : ∃ xs, cs.length = Try.prog.cellsOf t ∧ ((List.range m).mapM fun i => DataW.trod enc Try.prog W 0 (fun _ => true) true n e ((cs.drop (i * Try.prog.cellsOf e)).take (Try.prog.cellsOf e))) = some xs := by
      clear hc hct he
      unfold DataW.trod at h
      rw [ht] at h
      have fin : ∀ (cs : List Value) (x : DataW H × List MemPlace), (if cs.length = Try.prog.cellsOf t then Option.map (fun xs => (DataW.agg (List.map (fun x => x.fst) xs), List.flatMap (fun x => x.snd) xs)) (List.mapM (fun i => DataW.trod enc Try.prog W 0 (fun _ => true) true n e (List.take (Try.prog.cellsOf e) (List.drop (i * Try.prog.cellsOf e) cs))) (List.range m)) else none) = some x →
          ∃ xs, cs.length = Try.prog.cellsOf t ∧ ((List.range m).mapM fun i => DataW.trod enc Try.prog W 0 (fun _ => true) true n e ((cs.drop (i * Try.prog.cellsOf e)).take (Try.prog.cellsOf e))) = some xs := by
        intro cs x h
        split at h
        · rename_i hl
          obtain ⟨xs, hx, -⟩ := Option.map_eq_some_iff.1 h
          exact ⟨xs, hl, hx⟩
        · cases h
      split at h <;> first | (rename_i heq; cases heq; done) | (rename_i heq; injection heq with heq; injection heq with e1 e2; subst e1 e2; exact fin _ _ h) | exact fin _ _ h | (rename_i heq; injection heq with heq; cases heq; done)
    obtain ⟨xs, hl, hp⟩ := key
    rw [hct] at hl
    rw [hc] at hp
    simp only [Nat.mul_one] at hp
    refine ⟨hl, ?_⟩
    intro i hi
    have hg := mapM_some_get hp i i (by simp [hi])
    have hlen := mapM_some_length hp
    have hx : i < xs.length := by rw [hlen]; simpa using hi
    rw [List.getElem?_eq_getElem hx] at hg
    obtain ⟨n', h1, _, h3⟩ := DataW.trod_int he hg
    refine ⟨n', ?_, h3⟩
    have hi' : i < cs.length := by omega
    rw [List.drop_eq_getElem_cons hi', List.take_succ_cons, List.take_zero] at h1
    simp only [List.cons.injEq, and_true] at h1
    rw [List.getElem?_eq_getElem hi', h1]
/-- A slice of arrays of m ints. -/
theorem slice_rows {t e u : TypeId} {m : Nat} {k : IntKind} {fuel : Nat} {cs : List Value} {x : DataW H × List MemPlace} (ht : Try.prog.underlying t = some (.slice e)) (hte : Try.prog.underlying e = some (.array m u)) (he : Try.prog.underlying u = some (.int k)) (hc : Try.prog.cellsOf u = 1) (hct : Try.prog.cellsOf e = m) (hm : 0 < m)
    (h : DataW.trod enc Try.prog W 0 (fun _ => true) true fuel t cs = some x) :
    ∃ A len cap, cs = [.slice A len cap] ∧ len ≤ maxLen ∧ (len = 0 ∨ ∃ b off, A = some ⟨b, off, none⟩ ∧ ∀ i, i < len → ∀ j, j < m → ∃ n, W.cell? ⟨b, off + i * m + j, none⟩ = some (.int k n) ∧ (Lit.int k n).wf = true) := by
  rcases DataW.trod_slice ht h with ⟨rfl, -⟩ | ⟨a, len, cap, elems, rest, n, -, rfl, -, -, hl, hmx, hlen, hel, -, -⟩
  · exact ⟨none, 0, 0, rfl, Nat.zero_le _, .inl rfl⟩
  · refine ⟨some a, len, cap, rfl, by omega, ?_⟩
    rcases Nat.eq_zero_or_pos len with h0 | h0
    · exact .inl h0
    · have key : ∀ i, i < len → ∀ j, j < m → ∃ z, W.cell? ((a.add (i * m)).add j) = some (.int k z) ∧ (Lit.int k z).wf = true := by
        intro i hi j hj
        have h1 := hel i hi
        rw [List.getElem?_eq_getElem (by omega)] at h1
        obtain ⟨ecs, h2, h3⟩ := Option.bind_eq_some_iff.1 h1
        obtain ⟨h4, h5⟩ := arr_ints hte he hc hct h3
        obtain ⟨z, h6, h7⟩ := h5 j hj
        have := (World.cells?_some h2).2.2 j (by rw [hct]; exact hj)
        rw [hct] at this
        exact ⟨z, by rw [this, h6], h7⟩
      obtain ⟨b, off, spot⟩ := a
      obtain ⟨z0, hz0, -⟩ := key 0 h0 0 hm
      have hspot : spot = none := by simpa [Addr.add] using World.cell?_spot hz0
      subst hspot
      refine .inr ⟨b, off, rfl, fun i hi j hj => ?_⟩
      obtain ⟨z, h1, h2⟩ := key i hi j hj
      exact ⟨z, by simpa [Go.WideShapes.add_plain] using h1, h2⟩
end
end Go.Proofs.Ythdhlocoiipbaaa
