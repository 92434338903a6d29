/-
  Arrays of numbers among the arguments, opened. Nothing is asked.
-/
import Derived.Test.YtnplnfkmcfalhaaGreatDoorLawG
import Derived.Test.YtnplnfkmcfalhaaGreatDoorGdN
import Derived.OpenShut
namespace Go.Proofs.YtnplnfkmcfalhaaGreatDoor
set_option linter.unusedVariables false
set_option linter.unusedSimpArgs false
open Go.RowKit Go.WideShapes Go.ChangeShapes
set_option maxRecDepth 100000

section
variable {H : Type} {enc : TypeId × Value → H} {W : World}
theorem k5 : Tryz.prog.cellsOf 5 = 1 := by kernel_rfl
theorem u8_of_wf {n : Int} (h : (Lit.int .u8 n).wf = true) : 0 ≤ n ∧ n ≤ 255 := by
  simpa [Lit.wf, IntKind.min, IntKind.max, IntKind.signed, IntKind.bits] using h
theorem lst2 {α : Type} : ∀ (l : List α), l.length = 2 → ∃ x y, l = [x, y]
  | [x, y], _ => ⟨x, y, rfl⟩
theorem okWide_array {t e : TypeId} {m : Nat} {r : Reach} {b0 : Nat} {v : Value} (ht : Tryz.prog.underlying t = some (.array m e)) (h : Value.okWide Tryz.prog W r b0 t v) : ∃ cs, v = .agg cs ∧ cs.size = Tryz.prog.cellsOf t := by
  unfold Value.okWide at h
  rw [ht] at h
  obtain ⟨cs, h1, h2, -⟩ := h
  exact ⟨cs, h1, h2⟩
/-- An array of m ints. -/
theorem arr_ints {t e : TypeId} {m : Nat} {k : IntKind} {fuel : Nat} {cs : List Value} {x : DataW H × List MemPlace} (ht : Tryz.prog.underlying t = some (.array m e)) (he : Tryz.prog.underlying e = some (.int k)) (hc : Tryz.prog.cellsOf e = 1) (hct : Tryz.prog.cellsOf t = m)
    (h : DataW.trod enc Tryz.prog W 0 (fun _ => true) true fuel t cs = some x) : cs.length = m ∧ ∀ i, i < m → ∃ n, cs[i]? = some (.int k n) ∧ (Lit.int k n).wf = true := by
  cases fuel with
  | zero => simp [DataW.trod] at h
  | succ n =>
    have key : ∃ xs, cs.length = Tryz.prog.cellsOf t ∧ ((List.range m).mapM fun i => DataW.trod enc Tryz.prog W 0 (fun _ => true) true n e ((cs.drop (i * Tryz.prog.cellsOf e)).take (Tryz.prog.cellsOf e))) = some xs := by
      clear hc hct he
      unfold DataW.trod at h
      rw [ht] at h
      have fin : ∀ (cs : List Value) (x : DataW H × List MemPlace), (if cs.length = Tryz.prog.cellsOf t then Option.map (fun xs => (DataW.agg (List.map (fun x => x.fst) xs), List.flatMap (fun x => x.snd) xs)) (List.mapM (fun i => DataW.trod enc Tryz.prog W 0 (fun _ => true) true n e (List.take (Tryz.prog.cellsOf e) (List.drop (i * Tryz.prog.cellsOf e) cs))) (List.range m)) else none) = some x →
          ∃ xs, cs.length = Tryz.prog.cellsOf t ∧ ((List.range m).mapM fun i => DataW.trod enc Tryz.prog W 0 (fun _ => true) true n e ((cs.drop (i * Tryz.prog.cellsOf e)).take (Tryz.prog.cellsOf e))) = some xs := by
        intro cs x h
        split at h
        · rename_i hl
          obtain ⟨xs, hx, -⟩ := Option.map_eq_some_iff.1 h
          exact ⟨xs, hl, hx⟩
        · cases h
      split at h <;> first | (rename_i heq; cases heq; done) | (rename_i heq; injection heq with heq; injection heq with e1 e2; subst e1 e2; exact fin _ _ h) | exact fin _ _ h | (rename_i heq; injection heq with heq; cases heq; done)
    obtain ⟨xs, hl, hp⟩ := key
    rw [hct] at hl
    rw [hc] at hp
    simp only [Nat.mul_one] at hp
    refine ⟨hl, ?_⟩
    intro i hi
    have hg := mapM_some_get hp i i (by simp [hi])
    have hlen := mapM_some_length hp
    have hx : i < xs.length := by rw [hlen]; simpa using hi
    rw [List.getElem?_eq_getElem hx] at hg
    obtain ⟨n', h1, _, h3⟩ := DataW.trod_int he hg
    refine ⟨n', ?_, h3⟩
    have hi' : i < cs.length := by omega
    rw [List.drop_eq_getElem_cons hi', List.take_succ_cons, List.take_zero] at h1
    simp only [List.cons.injEq, and_true] at h1
    rw [List.getElem?_eq_getElem hi', h1]
end
end Go.Proofs.YtnplnfkmcfalhaaGreatDoor
